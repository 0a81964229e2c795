/- The law of SameMeaning returns true. -/
import Derived.Test.YtmdkbookcgkpaaaLDeps
import Derived.Test.YtmdkbookcgkpaaaSame
import Derived.Test.YtmdkbookcgkpaaaMark
namespace Go.Proofs.Ytmdkbookcgkpaaa
open Go.RowKit
set_option linter.unusedVariables false

set_option maxHeartbeats 1600000 in
theorem w_FnExactSameMeaning (w : World) (n : Int) (wf_n : (Lit.int .i64 n).wf = true) {v_A : Value} (in_A : InDeps w v_A) {v_B : Value} (in_B : InDeps w v_B) :
    Calls Try.prog 8 #[.int .i64 n, v_A, v_B] w fun e w' => e = .returned (.bool true) ∧ Below w.heap.size w w' := by
  obtain ⟨p_A, n_A, c_A, rfl, hm_A, hI_A⟩ := in_A
  obtain ⟨p_B, n_B, c_B, rfl, hm_B, hI_B⟩ := in_B
  have hb := Below.refl w.heap.size w
  by_cases big_A : (1048576 : Int) < n_A
  · go_enter Try.func8, Try.ntmps8
    go_wp2_with fail
    refine Calls.mono (c_szDepS_no _ _ _ _ (by omega) big_A hm_A _) ?_
    rintro e w' ⟨rfl, hbn⟩
    replace hb := bel_to hb hbn
    clear hbn
    go_wp2
    go_ret
    exact ⟨rfl, hb⟩
  have le_A : (n_A : Int) ≤ 1048576 := by omega
  obtain ⟨A, rfl, hD_A⟩ := hI_A (room_of (by omega))
  have hr_A := hD_A.len
  clear big_A
  by_cases big_B : (1048576 - (A.length : Int) : Int) < n_B
  · go_enter Try.func8, Try.ntmps8
    go_wp2_with fail
    refine Calls.mono (c_szDepS_ok _ _ _ _ (by omega) le_A _) ?_
    rintro e w' ⟨rfl, hbn⟩
    replace hb := bel_to hb hbn
    clear hbn
    go_wp2_with fail
    refine Calls.mono (c_szDepS_no _ _ _ _ (by omega) big_B hm_B _) ?_
    rintro e w' ⟨rfl, hbn⟩
    replace hb := bel_to hb hbn
    clear hbn
    go_wp2
    go_ret
    exact ⟨rfl, hb⟩
  have le_B : (n_B : Int) ≤ 1048576 - (A.length : Int) := by omega
  obtain ⟨B, rfl, hD_B⟩ := hI_B (room_of (by omega))
  have hr_B := hD_B.len
  clear big_B
  have ht_A : (decide (A = A)) = true := by simp
  have ht_B : (decide (B = B)) = true := by simp
  go_enter Try.func8, Try.ntmps8
  go_wp2_with fail
  refine Calls.mono (c_szDepS_ok _ _ _ _ (by omega) le_A _) ?_
  rintro e w1 ⟨rfl, hbn⟩
  replace hb := bel_to hb hbn
  clear hbn
  go_wp2_with fail
  refine Calls.mono (c_szDepS_ok _ _ _ _ (by omega) le_B _) ?_
  rintro e w2 ⟨rfl, hbn⟩
  replace hb := bel_to hb hbn
  clear hbn
  go_wp2_with fail
  refine Calls.mono (c_toDepS _ _ _ _ (hD_A.keep hb)) ?_
  rintro e w3 ⟨v3, rfl, s_A, hbn⟩
  replace s_A := s_A.based hb.size
  replace hb := bel_to hb hbn
  obtain ⟨o3, c3, rfl⟩ := s_A.shape
  clear hbn
  go_wp2_with fail
  have old_s_A := s_A
  refine Calls.mono (c_toDepS _ _ _ _ (hD_B.keep hb)) ?_
  rintro e w4 ⟨v4, rfl, s_B, hbn⟩
  have ap_s_A_s_B := apart_old old_s_A s_B
  clear old_s_A
  replace s_A := s_A.keep hbn
  replace s_B := s_B.based hb.size
  replace hb := bel_to hb hbn
  obtain ⟨o4, c4, rfl⟩ := s_B.shape
  clear hbn
  go_wp2_with fail
  refine Calls.mono (c_specSameMeaning _ _ _ _ _ _ _ _ (s_A.deps rfl hr_A) (s_B.deps rfl hr_B)) ?_
  rintro e w5 ⟨rfl, hbn⟩
  replace s_A := s_A.keep hbn
  replace s_B := s_B.keep hbn
  replace hb := bel_to hb hbn
  clear hbn
  clear s_A
  clear s_B
  go_wp2_with fail
  refine Calls.mono (c_toDepS _ _ _ _ (hD_A.keep hb)) ?_
  rintro e w6 ⟨v6, rfl, x_A, hbn⟩
  replace x_A := x_A.based hb.size
  replace hb := bel_to hb hbn
  obtain ⟨o6, c6, rfl⟩ := x_A.shape
  clear hbn
  go_wp2_with fail
  have old_x_A := x_A
  refine Calls.mono (c_toDepS _ _ _ _ (hD_B.keep hb)) ?_
  rintro e w7 ⟨v7, rfl, x_B, hbn⟩
  have ap_x_A_x_B := apart_old old_x_A x_B
  clear old_x_A
  replace x_A := x_A.keep hbn
  replace x_B := x_B.based hb.size
  replace hb := bel_to hb hbn
  obtain ⟨o7, c7, rfl⟩ := x_B.shape
  clear hbn
  go_wp2_with fail
  refine Calls.mono (c_SameMeaning _ _ _ _ _ _ _ _ (x_A.deps rfl hr_A) (x_B.deps rfl hr_B)) ?_
  rintro e w8 ⟨rfl, hbn⟩
  replace x_A := x_A.keep hbn
  replace x_B := x_B.keep hbn
  replace hb := bel_to hb hbn
  clear hbn
  go_wp2_with fail
  have old_x_A := x_A
  have old_x_B := x_B
  refine Calls.mono (c_toDepS _ _ _ _ (hD_A.keep hb)) ?_
  rintro e w9 ⟨v9, rfl, t_A, hbn⟩
  have ap_x_A_t_A := apart_old old_x_A t_A
  clear old_x_A
  have ap_x_B_t_A := apart_old old_x_B t_A
  clear old_x_B
  replace x_A := x_A.keep hbn
  replace x_B := x_B.keep hbn
  replace t_A := t_A.based hb.size
  replace hb := bel_to hb hbn
  obtain ⟨o9, c9, rfl⟩ := t_A.shape
  clear hbn
  go_wp2_with fail
  refine Calls.mono (c_eqDepS _ _ _ _ _ _ _ (x_A.deps rfl hr_A) (t_A.deps rfl hr_A)) ?_
  rintro e w10 ⟨rfl, hbn⟩
  replace x_A := x_A.keep hbn
  replace x_B := x_B.keep hbn
  replace t_A := t_A.keep hbn
  replace hb := bel_to hb hbn
  clear hbn
  clear t_A
  go_wp2_with fail
  have old_x_A := x_A
  have old_x_B := x_B
  refine Calls.mono (c_toDepS _ _ _ _ (hD_B.keep hb)) ?_
  rintro e w11 ⟨v11, rfl, t_B, hbn⟩
  have ap_x_A_t_B := apart_old old_x_A t_B
  clear old_x_A
  have ap_x_B_t_B := apart_old old_x_B t_B
  clear old_x_B
  replace x_A := x_A.keep hbn
  replace x_B := x_B.keep hbn
  replace t_B := t_B.based hb.size
  replace hb := bel_to hb hbn
  obtain ⟨o11, c11, rfl⟩ := t_B.shape
  clear hbn
  go_wp2_with fail
  refine Calls.mono (c_eqDepS _ _ _ _ _ _ _ (x_B.deps rfl hr_B) (t_B.deps rfl hr_B)) ?_
  rintro e w12 ⟨rfl, hbn⟩
  replace x_A := x_A.keep hbn
  replace x_B := x_B.keep hbn
  replace t_B := t_B.keep hbn
  replace hb := bel_to hb hbn
  clear hbn
  clear t_B
  go_wp2
  go_ret
  exact ⟨rfl, hb⟩
end Go.Proofs.Ytmdkbookcgkpaaa
