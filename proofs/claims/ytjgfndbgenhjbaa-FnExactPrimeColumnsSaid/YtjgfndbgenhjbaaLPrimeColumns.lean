/- The law of PrimeColumns returns true. -/
import Derived.Test.YtjgfndbgenhjbaaConv
import Derived.Test.YtjgfndbgenhjbaaKeys
import Derived.Test.YtjgfndbgenhjbaaMark
import Derived.Test.YtjgfndbgenhjbaaOpenD
namespace Go.Proofs.Ytjgfndbgenhjbaa
open Go.RowKit
set_option linter.unusedVariables false
set_option maxRecDepth 100000

set_option maxHeartbeats 1600000 in
theorem w_FnExactPrimeColumns (w : World) (n : Int) (wf_n : (Lit.int .i64 n).wf = true) {v_D : Value} (in_D : InDeps w v_D) :
    Calls Try.prog 11 #[.int .i64 n, v_D] w fun e w' => e = .returned (.bool true) ∧ Below w.heap.size w w' := by
  obtain ⟨p_D, n_D, c_D, rfl, hm_D, hI_D⟩ := in_D
  have hb := Below.refl w.heap.size w
  by_cases big_D : (1048576 : Int) < n_D
  · go_enter Try.func11, Try.ntmps11
    go_wp2_with fail
    refine Calls.mono (c_szDepS_no _ _ _ _ (by omega) big_D hm_D _) ?_
    rintro e w' ⟨rfl, hbn⟩
    replace hb := bel_to hb hbn
    clear hbn
    go_wp2
    go_ret
    exact ⟨rfl, hb⟩
  have le_D : (n_D : Int) ≤ 1048576 := by omega
  obtain ⟨D, rfl, hD_D⟩ := hI_D (room_of (by omega))
  have hr_D := hD_D.len
  clear big_D
  have ht_D : (decide (D = D)) = true := by simp
  go_enter Try.func11, Try.ntmps11
  go_wp2_with fail
  refine Calls.mono (c_szDepS_ok _ _ _ _ (by omega) le_D _) ?_
  rintro e w1 ⟨rfl, hbn⟩
  replace hb := bel_to hb hbn
  clear hbn
  go_wp2_with fail
  refine Calls.mono (c_toDepS _ _ _ _ (hD_D.keep hb)) ?_
  rintro e w2 ⟨v2, rfl, s_D, hbn⟩
  replace s_D := s_D.based hb.size
  replace hb := bel_to hb hbn
  obtain ⟨o2, c2, rfl⟩ := s_D.shape
  clear hbn
  go_wp2_with fail
  refine Calls.mono (c_specPrimeColumns _ _ _ _ _ (s_D.deps rfl hr_D)) ?_
  rintro e w3 ⟨rfl, hbn⟩
  replace s_D := s_D.keep hbn
  replace hb := bel_to hb hbn
  clear hbn
  clear s_D
  go_wp2_with fail
  refine Calls.mono (c_toDepS _ _ _ _ (hD_D.keep hb)) ?_
  rintro e w4 ⟨v4, rfl, x_D, hbn⟩
  replace x_D := x_D.based hb.size
  replace hb := bel_to hb hbn
  obtain ⟨o4, c4, rfl⟩ := x_D.shape
  clear hbn
  go_wp2_with fail
  refine Calls.mono (c_PrimeColumns _ _ _ _ _ (x_D.deps rfl hr_D)) ?_
  rintro e w5 ⟨rfl, hbn⟩
  replace x_D := x_D.keep hbn
  replace hb := bel_to hb hbn
  clear hbn
  go_wp2_with fail
  have old_x_D := x_D
  refine Calls.mono (c_toDepS _ _ _ _ (hD_D.keep hb)) ?_
  rintro e w6 ⟨v6, rfl, t_D, hbn⟩
  have ap_x_D_t_D := apart_old old_x_D t_D
  clear old_x_D
  replace x_D := x_D.keep hbn
  replace t_D := t_D.based hb.size
  replace hb := bel_to hb hbn
  obtain ⟨o6, c6, rfl⟩ := t_D.shape
  clear hbn
  go_wp2_with fail
  refine Calls.mono (c_eqDepS _ _ _ _ _ _ _ (x_D.deps rfl hr_D) (t_D.deps rfl hr_D)) ?_
  rintro e w7 ⟨rfl, hbn⟩
  replace x_D := x_D.keep hbn
  replace t_D := t_D.keep hbn
  replace hb := bel_to hb hbn
  clear hbn
  clear t_D
  go_wp2
  go_ret
  exact ⟨rfl, hb⟩
end Go.Proofs.Ytjgfndbgenhjbaa
