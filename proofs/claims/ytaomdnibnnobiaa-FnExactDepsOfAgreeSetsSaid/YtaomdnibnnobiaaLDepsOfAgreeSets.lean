/- The law of DepsOfAgreeSets returns true. -/
import Derived.Test.YtaomdnibnnobiaaAgD2
import Derived.Test.YtaomdnibnnobiaaMark
import Derived.Test.YtaomdnibnnobiaaEqInt
namespace Go.Proofs.Ytaomdnibnnobiaa
open Go.RowKit
set_option linter.unusedVariables false
set_option maxRecDepth 100000

set_option maxHeartbeats 1600000 in
theorem w_FnExactDepsOfAgreeSets (w : World) (n : Int) (wf_n : (Lit.int .i64 n).wf = true) {v_L : Value} (in_L : InInts w v_L) :
    Calls Try.prog 3 #[.int .i64 n, v_L] w fun e w' => e = .returned (.bool true) ∧ Below w.heap.size w w' := by
  obtain ⟨p_L, n_L, c_L, z_L, rfl, in_L⟩ := in_L
  have hb := Below.refl w.heap.size w
  by_cases big : 1048576 < n_L
  · go_enter Try.func3, Try.ntmps3
    go_wp2
    go_ret
    exact ⟨rfl, hb⟩
  obtain ⟨L, rfl, hD⟩ := in_L.ints (by unfold Room; omega)
  have hr := hD.len
  have hlen : (depsAF n L).length ≤ Room := depsA_len n L
  have hqm : ((1 : Int) + ((depsAF n L).length : Int) != 1 + ((depsAF n L).length : Int)) = false := by simp
  have hlt1 : decide ((1 : Int) + ((depsAF n L).length : Int) < 0) = false := by simp; omega
  have htL : (decide (depsAF n L = depsAF n L)) = true := by simp
  have ht_A : (decide (L = L)) = true := by simp
  go_enter Try.func3, Try.ntmps3
  go_wp2_with fail
  refine Calls.mono (c_toIntS _ _ _ _ (hD.keep hb)) ?_
  rintro e w1 ⟨v1, rfl, sL, hbn⟩
  replace sL := sL.based hb.size
  replace hb := bel_to hb hbn
  obtain ⟨o1, c1, rfl⟩ := sL.shape
  clear hbn
  go_wp2_with fail
  have old_sL := sL
  refine Calls.mono (c_specDepsOfAgreeSets _ _ _ _ _ (sL.ints rfl hr)) ?_
  rintro e w2 ⟨v2, rfl, wO, hbn⟩
  have ap_sL_wO := apart_old old_sL wO
  clear old_sL
  replace sL := sL.keep hbn
  replace wO := wO.based hb.size
  replace hb := bel_to hb hbn
  obtain ⟨o2, c2, rfl⟩ := wO.shape
  clear hbn
  clear sL
  go_wp2_with fail
  have old_wO := wO
  refine Calls.mono (c_toIntS _ _ _ _ (hD.keep hb)) ?_
  rintro e w3 ⟨v3, rfl, xL, hbn⟩
  have ap_wO_xL := apart_old old_wO xL
  clear old_wO
  replace wO := wO.keep hbn
  replace xL := xL.based hb.size
  replace hb := bel_to hb hbn
  obtain ⟨o3, c3, rfl⟩ := xL.shape
  clear hbn
  go_wp2_with fail
  have old_wO := wO
  have old_xL := xL
  refine Calls.mono (c_DepsOfAgreeSets _ _ _ _ _ (xL.ints rfl hr)) ?_
  rintro e w4 ⟨v4, rfl, gO, hbn⟩
  have ap_wO_gO := apart_old old_wO gO
  clear old_wO
  have ap_xL_gO := apart_old old_xL gO
  clear old_xL
  replace wO := wO.keep hbn
  replace xL := xL.keep hbn
  replace gO := gO.based hb.size
  replace hb := bel_to hb hbn
  obtain ⟨o4, c4, rfl⟩ := gO.shape
  clear hbn
  go_wp2_with fail
  refine Calls.mono (c_eqDepS _ _ _ _ _ _ _ (gO.deps rfl hlen) (wO.deps rfl hlen)) ?_
  rintro e w5 ⟨rfl, hbn⟩
  replace wO := wO.keep hbn
  replace xL := xL.keep hbn
  replace gO := gO.keep hbn
  replace hb := bel_to hb hbn
  clear hbn
  go_wp2_with fail
  have old_wO := wO
  have old_xL := xL
  have old_gO := gO
  refine Calls.mono (c_toIntS _ _ _ _ (hD.keep hb)) ?_
  rintro e w6 ⟨v6, rfl, tL, hbn⟩
  have ap_wO_tL := apart_old old_wO tL
  clear old_wO
  have ap_xL_tL := apart_old old_xL tL
  clear old_xL
  have ap_gO_tL := apart_old old_gO tL
  clear old_gO
  replace wO := wO.keep hbn
  replace xL := xL.keep hbn
  replace gO := gO.keep hbn
  replace tL := tL.based hb.size
  replace hb := bel_to hb hbn
  obtain ⟨o6, c6, rfl⟩ := tL.shape
  clear hbn
  go_wp2_with fail
  refine Calls.mono (c_eqIntS _ _ _ _ _ _ _ (xL.ints rfl hr) (tL.ints rfl hr)) ?_
  rintro e w7 ⟨rfl, hbn⟩
  replace wO := wO.keep hbn
  replace xL := xL.keep hbn
  replace gO := gO.keep hbn
  replace tL := tL.keep hbn
  replace hb := bel_to hb hbn
  clear hbn
  clear tL
  go_wp2_with fail
  have bel_xL := fun (x : World) (hg : World.grownBy _ x _) => below_mark hb xL hg
  refine Calls.mono (c_markIntS _ _ _ _ _ (by omega) _ hr xL) ?_
  rintro e w8 ⟨rfl, hm8, hg⟩
  replace wO := wO.far hg ap_wO_xL
  replace gO := gO.far hg ap_xL_gO.symm
  replace hb := bel_xL _ hg
  replace xL := hm8
  clear hg bel_xL
  have hk0 : decide ((1 : Int) + (L.length : Int) < 0) = false := by simp; omega
  go_wp2_with fail
  refine Calls.mono (c_eqDepS _ _ _ _ _ _ _ (gO.deps rfl hlen) (wO.deps rfl hlen)) ?_
  rintro e w9 ⟨rfl, hbn⟩
  replace wO := wO.keep hbn
  replace xL := xL.keep hbn
  replace gO := gO.keep hbn
  replace hb := bel_to hb hbn
  clear hbn
  clear xL
  go_wp2_with fail
  have bel_gO := fun (x : World) (hg : World.grownBy _ x _) => below_mark hb gO hg
  refine Calls.mono (c_markDepS _ _ _ _ _ (by omega) _ hlen gO) ?_
  rintro e w10 ⟨rfl, hm10, hg⟩
  replace wO := wO.far hg ap_wO_gO
  replace hb := bel_gO _ hg
  replace gO := hm10
  clear hg bel_gO
  go_wp2_with fail
  refine Calls.mono (c_heldDepS _ _ _ _ (by omega) _ (gO.deps (seqD_length _ _).symm (by rw [seqD_length]; exact hlen))) ?_
  rintro e w11 ⟨rfl, hbn⟩
  replace wO := wO.keep hbn
  replace gO := gO.keep hbn
  replace hb := bel_to hb hbn
  clear hbn
  go_wp2_with fail
  have old_wO := wO
  have old_gO := gO
  refine Calls.mono (c_toIntS _ _ _ _ (hD.keep hb)) ?_
  rintro e w12 ⟨v12, rfl, uL, hbn⟩
  have ap_wO_uL := apart_old old_wO uL
  clear old_wO
  have ap_gO_uL := apart_old old_gO uL
  clear old_gO
  replace wO := wO.keep hbn
  replace gO := gO.keep hbn
  replace uL := uL.based hb.size
  replace hb := bel_to hb hbn
  obtain ⟨o12, c12, rfl⟩ := uL.shape
  clear hbn
  go_wp2_with fail
  have old_wO := wO
  have old_gO := gO
  have old_uL := uL
  refine Calls.mono (c_DepsOfAgreeSets _ _ _ _ _ (uL.ints rfl hr)) ?_
  rintro e w13 ⟨v13, rfl, hO, hbn⟩
  have ap_wO_hO := apart_old old_wO hO
  clear old_wO
  have ap_gO_hO := apart_old old_gO hO
  clear old_gO
  have ap_uL_hO := apart_old old_uL hO
  clear old_uL
  replace wO := wO.keep hbn
  replace gO := gO.keep hbn
  replace uL := uL.keep hbn
  replace hO := hO.based hb.size
  replace hb := bel_to hb hbn
  obtain ⟨o13, c13, rfl⟩ := hO.shape
  clear hbn
  go_wp2_with fail
  refine Calls.mono (c_eqDepS _ _ _ _ _ _ _ (hO.deps rfl hlen) (wO.deps rfl hlen)) ?_
  rintro e w14 ⟨rfl, hbn⟩
  replace wO := wO.keep hbn
  replace gO := gO.keep hbn
  replace uL := uL.keep hbn
  replace hO := hO.keep hbn
  replace hb := bel_to hb hbn
  clear hbn
  go_wp2_with fail
  refine Calls.mono (c_heldDepS _ _ _ _ (by omega) _ (gO.deps (seqD_length _ _).symm (by rw [seqD_length]; exact hlen))) ?_
  rintro e w15 ⟨rfl, hbn⟩
  replace wO := wO.keep hbn
  replace gO := gO.keep hbn
  replace uL := uL.keep hbn
  replace hO := hO.keep hbn
  replace hb := bel_to hb hbn
  clear hbn
  go_wp2
  go_ret
  exact ⟨rfl, hb⟩
end Go.Proofs.Ytaomdnibnnobiaa
