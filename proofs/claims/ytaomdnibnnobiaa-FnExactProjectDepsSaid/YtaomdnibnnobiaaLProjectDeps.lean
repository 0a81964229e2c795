/- The law of ProjectDeps returns true. -/
import Derived.Test.YtaomdnibnnobiaaConv
import Derived.Test.YtaomdnibnnobiaaProj2
import Derived.Test.YtaomdnibnnobiaaMark
import Derived.Test.YtaomdnibnnobiaaOpenD
namespace Go.Proofs.Ytaomdnibnnobiaa
open Go.RowKit
set_option linter.unusedVariables false
set_option maxRecDepth 100000

set_option maxHeartbeats 1600000 in
theorem w_FnExactProjectDeps (w : World) (n : Int) (wf_n : (Lit.int .i64 n).wf = true) {v_D : Value} (in_D : InDeps w v_D) (s : Int) (wf_s : (Lit.int .i64 s).wf = true) :
    Calls Try.prog 4 #[.int .i64 n, v_D, .int .i64 s] w fun e w' => e = .returned (.bool true) ∧ Below w.heap.size w w' := by
  obtain ⟨p_D, n_D, c_D, rfl, hm_D, hI_D⟩ := in_D
  have hb := Below.refl w.heap.size w
  by_cases big_D : (1048576 : Int) < n_D
  · go_enter Try.func4, Try.ntmps4
    go_wp2_with fail
    refine Calls.mono (c_szDepS_no _ _ _ _ (by omega) big_D hm_D _) ?_
    rintro e w' ⟨rfl, hbn⟩
    replace hb := bel_to hb hbn
    clear hbn
    go_wp2
    go_ret
    exact ⟨rfl, hb⟩
  have le_D : (n_D : Int) ≤ 1048576 := by omega
  obtain ⟨D, rfl, hD_D⟩ := hI_D (room_of (by omega))
  have hr_D := hD_D.len
  clear big_D
  have hlen : (projF n D s).length ≤ Room := proj_len n D s
  have hqm : ((1 : Int) + ((projF n D s).length : Int) != 1 + ((projF n D s).length : Int)) = false := by simp
  have hlt1 : decide ((1 : Int) + ((projF n D s).length : Int) < 0) = false := by simp; omega
  have htL : (decide (projF n D s = projF n D s)) = true := by simp
  have ht_D : (decide (D = D)) = true := by simp
  go_enter Try.func4, Try.ntmps4
  go_wp2_with fail
  refine Calls.mono (c_szDepS_ok _ _ _ _ (by omega) le_D _) ?_
  rintro e w1 ⟨rfl, hbn⟩
  replace hb := bel_to hb hbn
  clear hbn
  go_wp2_with fail
  refine Calls.mono (c_toDepS _ _ _ _ (hD_D.keep hb)) ?_
  rintro e w2 ⟨v2, rfl, s_D, hbn⟩
  replace s_D := s_D.based hb.size
  replace hb := bel_to hb hbn
  obtain ⟨o2, c2, rfl⟩ := s_D.shape
  clear hbn
  go_wp2_with fail
  have old_s_D := s_D
  refine Calls.mono (c_specProjectDeps _ _ _ _ _ _ (s_D.deps rfl hr_D)) ?_
  rintro e w3 ⟨v3, rfl, wO, hbn⟩
  have ap_s_D_wO := apart_old old_s_D wO
  clear old_s_D
  replace s_D := s_D.keep hbn
  replace wO := wO.based hb.size
  replace hb := bel_to hb hbn
  obtain ⟨o3, c3, rfl⟩ := wO.shape
  clear hbn
  clear s_D
  go_wp2_with fail
  have old_wO := wO
  refine Calls.mono (c_toDepS _ _ _ _ (hD_D.keep hb)) ?_
  rintro e w4 ⟨v4, rfl, x_D, hbn⟩
  have ap_wO_x_D := apart_old old_wO x_D
  clear old_wO
  replace wO := wO.keep hbn
  replace x_D := x_D.based hb.size
  replace hb := bel_to hb hbn
  obtain ⟨o4, c4, rfl⟩ := x_D.shape
  clear hbn
  go_wp2_with fail
  have old_wO := wO
  have old_x_D := x_D
  refine Calls.mono (c_ProjectDeps _ _ _ _ _ _ (x_D.deps rfl hr_D)) ?_
  rintro e w5 ⟨v5, rfl, gO, hbn⟩
  have ap_wO_gO := apart_old old_wO gO
  clear old_wO
  have ap_x_D_gO := apart_old old_x_D gO
  clear old_x_D
  replace wO := wO.keep hbn
  replace x_D := x_D.keep hbn
  replace gO := gO.based hb.size
  replace hb := bel_to hb hbn
  obtain ⟨o5, c5, rfl⟩ := gO.shape
  clear hbn
  go_wp2_with fail
  refine Calls.mono (c_eqDepS _ _ _ _ _ _ _ (gO.deps rfl hlen) (wO.deps rfl hlen)) ?_
  rintro e w6 ⟨rfl, hbn⟩
  replace wO := wO.keep hbn
  replace x_D := x_D.keep hbn
  replace gO := gO.keep hbn
  replace hb := bel_to hb hbn
  clear hbn
  go_wp2_with fail
  have old_wO := wO
  have old_x_D := x_D
  have old_gO := gO
  refine Calls.mono (c_toDepS _ _ _ _ (hD_D.keep hb)) ?_
  rintro e w7 ⟨v7, rfl, t_D, hbn⟩
  have ap_wO_t_D := apart_old old_wO t_D
  clear old_wO
  have ap_x_D_t_D := apart_old old_x_D t_D
  clear old_x_D
  have ap_gO_t_D := apart_old old_gO t_D
  clear old_gO
  replace wO := wO.keep hbn
  replace x_D := x_D.keep hbn
  replace gO := gO.keep hbn
  replace t_D := t_D.based hb.size
  replace hb := bel_to hb hbn
  obtain ⟨o7, c7, rfl⟩ := t_D.shape
  clear hbn
  go_wp2_with fail
  refine Calls.mono (c_eqDepS _ _ _ _ _ _ _ (x_D.deps rfl hr_D) (t_D.deps rfl hr_D)) ?_
  rintro e w8 ⟨rfl, hbn⟩
  replace wO := wO.keep hbn
  replace x_D := x_D.keep hbn
  replace gO := gO.keep hbn
  replace t_D := t_D.keep hbn
  replace hb := bel_to hb hbn
  clear hbn
  clear t_D
  go_wp2_with fail
  have bel_x_D := fun (x : World) (hg : World.grownBy _ x _) => below_mark hb x_D hg
  refine Calls.mono (c_markDepS _ _ _ _ _ (by omega) _ hr_D x_D) ?_
  rintro e w9 ⟨rfl, hm9, hg⟩
  replace wO := wO.far hg ap_wO_x_D
  replace gO := gO.far hg ap_x_D_gO.symm
  replace hb := bel_x_D _ hg
  replace x_D := hm9
  clear hg bel_x_D
  have hk0 : decide (1 + 2 * (D.length : Int) < 0) = false := by simp; omega
  go_wp2_with fail
  refine Calls.mono (c_eqDepS _ _ _ _ _ _ _ (gO.deps rfl hlen) (wO.deps rfl hlen)) ?_
  rintro e w10 ⟨rfl, hbn⟩
  replace wO := wO.keep hbn
  replace x_D := x_D.keep hbn
  replace gO := gO.keep hbn
  replace hb := bel_to hb hbn
  clear hbn
  clear x_D
  go_wp2_with fail
  have bel_gO := fun (x : World) (hg : World.grownBy _ x _) => below_mark hb gO hg
  refine Calls.mono (c_markDepS _ _ _ _ _ (by omega) _ hlen gO) ?_
  rintro e w11 ⟨rfl, hm11, hg⟩
  replace wO := wO.far hg ap_wO_gO
  replace hb := bel_gO _ hg
  replace gO := hm11
  clear hg bel_gO
  go_wp2_with fail
  refine Calls.mono (c_heldDepS _ _ _ _ (by omega) _ (gO.deps (seqD_length _ _).symm (by rw [seqD_length]; exact hlen))) ?_
  rintro e w12 ⟨rfl, hbn⟩
  replace wO := wO.keep hbn
  replace gO := gO.keep hbn
  replace hb := bel_to hb hbn
  clear hbn
  go_wp2_with fail
  have old_wO := wO
  have old_gO := gO
  refine Calls.mono (c_toDepS _ _ _ _ (hD_D.keep hb)) ?_
  rintro e w13 ⟨v13, rfl, u_D, hbn⟩
  have ap_wO_u_D := apart_old old_wO u_D
  clear old_wO
  have ap_gO_u_D := apart_old old_gO u_D
  clear old_gO
  replace wO := wO.keep hbn
  replace gO := gO.keep hbn
  replace u_D := u_D.based hb.size
  replace hb := bel_to hb hbn
  obtain ⟨o13, c13, rfl⟩ := u_D.shape
  clear hbn
  go_wp2_with fail
  have old_wO := wO
  have old_gO := gO
  have old_u_D := u_D
  refine Calls.mono (c_ProjectDeps _ _ _ _ _ _ (u_D.deps rfl hr_D)) ?_
  rintro e w14 ⟨v14, rfl, hO, hbn⟩
  have ap_wO_hO := apart_old old_wO hO
  clear old_wO
  have ap_gO_hO := apart_old old_gO hO
  clear old_gO
  have ap_u_D_hO := apart_old old_u_D hO
  clear old_u_D
  replace wO := wO.keep hbn
  replace gO := gO.keep hbn
  replace u_D := u_D.keep hbn
  replace hO := hO.based hb.size
  replace hb := bel_to hb hbn
  obtain ⟨o14, c14, rfl⟩ := hO.shape
  clear hbn
  go_wp2_with fail
  refine Calls.mono (c_eqDepS _ _ _ _ _ _ _ (hO.deps rfl hlen) (wO.deps rfl hlen)) ?_
  rintro e w15 ⟨rfl, hbn⟩
  replace wO := wO.keep hbn
  replace gO := gO.keep hbn
  replace u_D := u_D.keep hbn
  replace hO := hO.keep hbn
  replace hb := bel_to hb hbn
  clear hbn
  go_wp2_with fail
  refine Calls.mono (c_heldDepS _ _ _ _ (by omega) _ (gO.deps (seqD_length _ _).symm (by rw [seqD_length]; exact hlen))) ?_
  rintro e w16 ⟨rfl, hbn⟩
  replace wO := wO.keep hbn
  replace gO := gO.keep hbn
  replace u_D := u_D.keep hbn
  replace hO := hO.keep hbn
  replace hb := bel_to hb hbn
  clear hbn
  go_wp2
  go_ret
  exact ⟨rfl, hb⟩
end Go.Proofs.Ytaomdnibnnobiaa
