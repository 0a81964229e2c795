/- Whether a set of columns is unique, of both sides. -/
import Derived.Test.YtkanbnbofoabeaaPtnS
namespace Go.Proofs.Ytkanbnbofoabeaa
open Go.RowKit
set_option linter.unusedVariables false
set_option maxRecDepth 100000

def uniqF (n : Int) (R : List (List Int)) (m s : Int) : Bool := ptnOk n R m s && ((ptnQ (sameB R m s) R.length R.length).length == 0)
theorem ptnF_ok {n : Int} {R : List (List Int)} {m s : Int} (h : ptnOk n R m s = true) : ptnF n R m s = ptnQ (sameB R m s) R.length R.length := by unfold ptnF; rw [if_pos h]
set_option maxHeartbeats 800000 in
theorem c_IsUnique (n : Int) (oa) (cap : Nat) (R : List (List Int)) (m s : Int) (w : World) (hR : RowsAt w oa R) :
    Ans Try.prog 29 #[.agg #[.int .i64 n, .slice oa R.length cap], .int .i64 m, .int .i64 s] w (.bool (uniqF n R m s)) := by
  unfold Ans
  have hb := (Below.refl w.heap.size w).alloc (Nat.le_refl _) (.cells #[.int .i64 n, .slice oa R.length cap] 28)
  have a0 := box_at w #[.int .i64 n, .slice oa R.length cap] 28 0 _ rfl
  have a1 := box_at w #[.int .i64 n, .slice oa R.length cap] 28 1 _ rfl
  cases h1 : isTabF n R
  · have HM : Hid (uniqF n R m s = false) := by show uniqF n R m s = false; unfold uniqF ptnOk; rw [h1]; rfl
    go_enter Try.func29, Try.ntmps29
    go_wp2_with (first | (go_at_call 79; refine Calls.mono (Ans.eqb (c_IsTable _ _ _ _ _ (hR.keep hb)) h1) ?_; rintro e w1 ⟨rfl, hbn⟩; replace a0 := cell_keep a0 hbn; replace a1 := cell_keep a1 hbn; replace hb := bel_to (w := w) (by first | exact hb | exact hb.alloc hb.size _ | exact (hb.alloc hb.size _).alloc (Nat.le_trans hb.size (by simp)) _ | exact hb.setCell (by simp [hb.size]) _) hbn; clear hbn))
    go_ret
    exact ⟨ret_bool HM.out.symm, hb⟩
  cases h2 : modeF m
  · have HM : Hid (uniqF n R m s = false) := by show uniqF n R m s = false; unfold uniqF ptnOk; rw [h1, h2]; rfl
    go_enter Try.func29, Try.ntmps29
    go_wp2_with (first | (go_at_call 79; refine Calls.mono (Ans.eqb (c_IsTable _ _ _ _ _ (hR.keep hb)) h1) ?_; rintro e w1 ⟨rfl, hbn⟩; replace a0 := cell_keep a0 hbn; replace a1 := cell_keep a1 hbn; replace hb := bel_to (w := w) (by first | exact hb | exact hb.alloc hb.size _ | exact (hb.alloc hb.size _).alloc (Nat.le_trans hb.size (by simp)) _ | exact hb.setCell (by simp [hb.size]) _) hbn; clear hbn) | (go_at_call 80; refine Calls.mono (Ans.eqb (c_isMode _ _) h2) ?_; rintro e w1 ⟨rfl, hbn⟩; replace a0 := cell_keep a0 hbn; replace a1 := cell_keep a1 hbn; replace hb := bel_to (w := w) (by first | exact hb | exact hb.alloc hb.size _ | exact (hb.alloc hb.size _).alloc (Nat.le_trans hb.size (by simp)) _ | exact hb.setCell (by simp [hb.size]) _) hbn; clear hbn))
    go_ret
    exact ⟨ret_bool HM.out.symm, hb⟩
  cases h3 : isAttr n s
  · have HM : Hid (uniqF n R m s = false) := by show uniqF n R m s = false; unfold uniqF ptnOk; rw [h1, h2, h3]; rfl
    go_enter Try.func29, Try.ntmps29
    go_wp2_with (first | (go_at_call 79; refine Calls.mono (Ans.eqb (c_IsTable _ _ _ _ _ (hR.keep hb)) h1) ?_; rintro e w1 ⟨rfl, hbn⟩; replace a0 := cell_keep a0 hbn; replace a1 := cell_keep a1 hbn; replace hb := bel_to (w := w) (by first | exact hb | exact hb.alloc hb.size _ | exact (hb.alloc hb.size _).alloc (Nat.le_trans hb.size (by simp)) _ | exact hb.setCell (by simp [hb.size]) _) hbn; clear hbn) | (go_at_call 80; refine Calls.mono (Ans.eqb (c_isMode _ _) h2) ?_; rintro e w1 ⟨rfl, hbn⟩; replace a0 := cell_keep a0 hbn; replace a1 := cell_keep a1 hbn; replace hb := bel_to (w := w) (by first | exact hb | exact hb.alloc hb.size _ | exact (hb.alloc hb.size _).alloc (Nat.le_trans hb.size (by simp)) _ | exact hb.setCell (by simp [hb.size]) _) hbn; clear hbn) | (go_at_call 81; refine Calls.mono (Ans.eqb (c_isAttributes _ _ _) h3) ?_; rintro e w1 ⟨rfl, hbn⟩; replace a0 := cell_keep a0 hbn; replace a1 := cell_keep a1 hbn; replace hb := bel_to (w := w) (by first | exact hb | exact hb.alloc hb.size _ | exact (hb.alloc hb.size _).alloc (Nat.le_trans hb.size (by simp)) _ | exact hb.setCell (by simp [hb.size]) _) hbn; clear hbn))
    go_ret
    exact ⟨ret_bool HM.out.symm, hb⟩
  have hok : ptnOk n R m s = true := by unfold ptnOk; rw [h1, h2, h3]; rfl
  have HM : Hid (uniqF n R m s = ((ptnF n R m s).length == 0)) := by show uniqF n R m s = _; rw [ptnF_ok hok]; unfold uniqF; rw [hok]; rfl
  clear hok
  go_enter Try.func29, Try.ntmps29
  go_wp2_with (first | (go_at_call 79; refine Calls.mono (Ans.eqb (c_IsTable _ _ _ _ _ (hR.keep hb)) h1) ?_; rintro e w1 ⟨rfl, hbn⟩; replace a0 := cell_keep a0 hbn; replace a1 := cell_keep a1 hbn; replace hb := bel_to (w := w) (by first | exact hb | exact hb.alloc hb.size _ | exact (hb.alloc hb.size _).alloc (Nat.le_trans hb.size (by simp)) _ | exact hb.setCell (by simp [hb.size]) _) hbn; clear hbn) | (go_at_call 80; refine Calls.mono (Ans.eqb (c_isMode _ _) h2) ?_; rintro e w1 ⟨rfl, hbn⟩; replace a0 := cell_keep a0 hbn; replace a1 := cell_keep a1 hbn; replace hb := bel_to (w := w) (by first | exact hb | exact hb.alloc hb.size _ | exact (hb.alloc hb.size _).alloc (Nat.le_trans hb.size (by simp)) _ | exact hb.setCell (by simp [hb.size]) _) hbn; clear hbn) | (go_at_call 81; refine Calls.mono (Ans.eqb (c_isAttributes _ _ _) h3) ?_; rintro e w1 ⟨rfl, hbn⟩; replace a0 := cell_keep a0 hbn; replace a1 := cell_keep a1 hbn; replace hb := bel_to (w := w) (by first | exact hb | exact hb.alloc hb.size _ | exact (hb.alloc hb.size _).alloc (Nat.le_trans hb.size (by simp)) _ | exact hb.setCell (by simp [hb.size]) _) hbn; clear hbn))
  refine (c_PartitionOf n _ _ R m s _ (hR.keep hb)).mono ?_
  rintro e w2 ⟨v2, xs, rfl, hO, hbn⟩
  obtain ⟨o2, c2, rfl⟩ := hO.shape
  replace hb := bel_to hb hbn
  clear hbn hO
  generalize (ptnF n R m s).length = k at *
  by_cases hk : k = 0
  · subst hk
    go_wp2
    go_ret
    exact ⟨ret_bool HM.out.symm, hb⟩
  · have HK : Hid ((k == 0) = false) := by show (k == 0) = false; simpa using hk
    have hk1 : ((k : Int) == 0) = false := by simp; omega
    go_wp2
    go_ret
    exact ⟨ret_bool (by rw [HM.out, HK.out]), hb⟩
set_option maxHeartbeats 800000 in
theorem c_specIsUnique (n : Int) (oa) (cap : Nat) (R : List (List Int)) (m s : Int) (w : World) (hR : RowsAt w oa R) :
    Ans Try.prog 27 #[.agg #[.int .i64 n, .slice oa R.length cap], .int .i64 m, .int .i64 s] w (.bool (uniqF n R m s)) := by
  unfold Ans
  have hb := (Below.refl w.heap.size w).alloc (Nat.le_refl _) (.cells #[.int .i64 n, .slice oa R.length cap] 28)
  have a0 := box_at w #[.int .i64 n, .slice oa R.length cap] 28 0 _ rfl
  have a1 := box_at w #[.int .i64 n, .slice oa R.length cap] 28 1 _ rfl
  cases hf : (isTabF n R && modeF m)
  · have HM : Hid (uniqF n R m s = false) := by show uniqF n R m s = false; unfold uniqF ptnOk; rw [hf]; rfl
    go_enter Try.func27, Try.ntmps27
    go_wp2_with (first | (go_at_call 75; refine Calls.mono (Ans.eqb (c_l4Fine _ _ _ _ _ _ (hR.keep hb)) hf) ?_; rintro e w1 ⟨rfl, hbn⟩; replace a0 := cell_keep a0 hbn; replace a1 := cell_keep a1 hbn; replace hb := bel_to (w := w) (by first | exact hb | exact hb.alloc hb.size _ | exact (hb.alloc hb.size _).alloc (Nat.le_trans hb.size (by simp)) _ | exact hb.setCell (by simp [hb.size]) _) hbn; clear hbn))
    go_ret
    exact ⟨ret_bool HM.out.symm, hb⟩
  cases h3 : isAttr n s
  · have HM : Hid (uniqF n R m s = false) := by show uniqF n R m s = false; unfold uniqF ptnOk; rw [hf, h3]; rfl
    go_enter Try.func27, Try.ntmps27
    go_wp2_with (first | (go_at_call 75; refine Calls.mono (Ans.eqb (c_l4Fine _ _ _ _ _ _ (hR.keep hb)) hf) ?_; rintro e w1 ⟨rfl, hbn⟩; replace a0 := cell_keep a0 hbn; replace a1 := cell_keep a1 hbn; replace hb := bel_to (w := w) (by first | exact hb | exact hb.alloc hb.size _ | exact (hb.alloc hb.size _).alloc (Nat.le_trans hb.size (by simp)) _ | exact hb.setCell (by simp [hb.size]) _) hbn; clear hbn) | (go_at_call 76; refine Calls.mono (Ans.eqb (c_specIsAttributes _ _ _) h3) ?_; rintro e w1 ⟨rfl, hbn⟩; replace a0 := cell_keep a0 hbn; replace a1 := cell_keep a1 hbn; replace hb := bel_to (w := w) (by first | exact hb | exact hb.alloc hb.size _ | exact (hb.alloc hb.size _).alloc (Nat.le_trans hb.size (by simp)) _ | exact hb.setCell (by simp [hb.size]) _) hbn; clear hbn))
    go_ret
    exact ⟨ret_bool HM.out.symm, hb⟩
  have HM : Hid (uniqF n R m s = ((ptnQ (sameB R m s) R.length R.length).length == 0)) := by show uniqF n R m s = _; unfold uniqF ptnOk; rw [hf, h3]; rfl
  have ht : isTabF n R = true := by have := hf; simp only [Bool.and_eq_true] at this; exact this.1
  have HS : Hid (isTabF n R = true ∧ St s) := by
    refine ⟨ht, ?_⟩
    have h := h3
    unfold isAttr at h
    simp only [Bool.and_eq_true, decide_eq_true_eq] at h
    have hp := (pow_wrap (n := n) (by omega) (isTab_of ht).2.1).2.1
    exact ⟨h.1.2, by omega⟩
  clear ht
  go_enter Try.func27, Try.ntmps27
  go_wp2_with (first | (go_at_call 75; refine Calls.mono (Ans.eqb (c_l4Fine _ _ _ _ _ _ (hR.keep hb)) hf) ?_; rintro e w1 ⟨rfl, hbn⟩; replace a0 := cell_keep a0 hbn; replace a1 := cell_keep a1 hbn; replace hb := bel_to (w := w) (by first | exact hb | exact hb.alloc hb.size _ | exact (hb.alloc hb.size _).alloc (Nat.le_trans hb.size (by simp)) _ | exact hb.setCell (by simp [hb.size]) _) hbn; clear hbn) | (go_at_call 76; refine Calls.mono (Ans.eqb (c_specIsAttributes _ _ _) h3) ?_; rintro e w1 ⟨rfl, hbn⟩; replace a0 := cell_keep a0 hbn; replace a1 := cell_keep a1 hbn; replace hb := bel_to (w := w) (by first | exact hb | exact hb.alloc hb.size _ | exact (hb.alloc hb.size _).alloc (Nat.le_trans hb.size (by simp)) _ | exact hb.setCell (by simp [hb.size]) _) hbn; clear hbn))
  refine (c_l5Classes n _ _ R m s _ (hR.keep hb) HS.out.1 HS.out.2).mono ?_
  rintro e w2 ⟨v2, xs, rfl, hO, hbn⟩
  obtain ⟨o2, c2, rfl⟩ := hO.shape
  replace hb := bel_to hb hbn
  clear hbn hO
  generalize (ptnQ (sameB R m s) R.length R.length).length = k at *
  by_cases hk : k = 0
  · subst hk
    go_wp2
    go_ret
    exact ⟨ret_bool HM.out.symm, hb⟩
  · have HK : Hid ((k == 0) = false) := by show (k == 0) = false; simpa using hk
    have hk1 : ((k : Int) == 0) = false := by simp; omega
    go_wp2
    go_ret
    exact ⟨ret_bool (by rw [HM.out, HK.out]), hb⟩
end Go.Proofs.Ytkanbnbofoabeaa
