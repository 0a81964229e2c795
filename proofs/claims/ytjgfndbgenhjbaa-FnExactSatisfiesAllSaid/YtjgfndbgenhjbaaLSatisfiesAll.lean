/- The law of SatisfiesAll returns true. -/
import Derived.Test.YtjgfndbgenhjbaaSatis
import Derived.Test.YtjgfndbgenhjbaaOpenTab
import Derived.Test.YtjgfndbgenhjbaaConv
import Derived.Test.YtjgfndbgenhjbaaMark
import Derived.Deep.RegionHeld3
namespace Go.Proofs.Ytjgfndbgenhjbaa
open Go.RowKit
set_option linter.unusedVariables false
set_option maxRecDepth 100000

set_option maxHeartbeats 1600000 in
theorem w_FnExactSatisfiesAll (w : World) {vT : Value} (inT : InTab w vT) (m : Int) (wf_m : (Lit.int .i64 m).wf = true) {vD : Value} (inD : InDeps w vD) :
    Calls Try.prog 6 #[vT, .int .i64 m, vD] w fun e w' => e = .returned (.bool true) ∧ Below w.heap.size w w' := by
  obtain ⟨n, oT, lT, cT, Ln, rfl, hRI⟩ := inT
  obtain ⟨oD, lD, cD, rfl, hmD, hD0⟩ := inD
  have hb := (Below.refl w.heap.size w).alloc (Nat.le_refl _) (.cells #[.int .i64 n, .slice oT lT cT] 40)
  have tb0 := box_at w #[.int .i64 n, .slice oT lT cT] 40 0 _ rfl
  have tb1 := box_at w #[.int .i64 n, .slice oT lT cT] 40 1 _ rfl
  go_enter Try.func6, Try.ntmps6
  go_wp2_with fail
  refine (c_szTable n _ _ _ _ _ (hRI.keep hb)).mono ?_
  rintro e w0 ⟨⟨x, rfl, hx⟩, hbn⟩
  replace tb0 := cell_keep tb0 hbn
  replace tb1 := cell_keep tb1 hbn
  replace hb := bel_to hb hbn
  clear hbn
  rcases hx with rfl | ⟨hx0, hx1, hx2, hx3⟩
  · go_wp2
    go_ret
    exact ⟨rfl, hb⟩
  obtain ⟨R, rfl, hR⟩ := hRI.read (by unfold Room; omega) (fun r hr => by have := hx3 r hr; unfold Room; omega)
  clear hx3 hRI
  by_cases big : x < (lD : Int)
  · go_wp2_with fail
    refine Calls.mono (c_szDepS_no _ _ _ _ ⟨hx0, hx1⟩ big hmD _) ?_
    rintro e w1 ⟨rfl, hbn⟩
    replace hb := bel_to hb hbn
    clear hbn
    go_wp2
    go_ret
    exact ⟨rfl, hb⟩
  obtain ⟨D, rfl, hD⟩ := hD0 (room_of (by omega))
  have hrD := hD.len
  have hy0 : 0 ≤ x - (D.length : Int) := by omega
  go_wp2_with fail
  refine Calls.mono (c_szDepS_ok _ _ _ _ (by omega) (by omega) _) ?_
  rintro e w1 ⟨rfl, hbn⟩
  replace tb0 := cell_keep tb0 hbn
  replace tb1 := cell_keep tb1 hbn
  replace hb := bel_to hb hbn
  clear hbn
  clear big hx0 hx1 hx2
  generalize x - (D.length : Int) = y at *
  go_wp2_with fail
  refine (c_toTable n _ _ R _ (hR.keep hb)).mono ?_
  rintro e w2 ⟨o_sT, c_sT, rfl, sT, hbn⟩
  replace tb0 := cell_keep tb0 hbn
  replace tb1 := cell_keep tb1 hbn
  replace hb := bel_to hb hbn
  clear hbn
  go_wp2_with fail
  refine (c_toDepS _ _ _ _ (hD.keep hb)).mono ?_
  rintro e w3 ⟨v3, rfl, q3, hbn⟩
  replace tb0 := cell_keep tb0 hbn
  replace tb1 := cell_keep tb1 hbn
  replace sT := sT.keep hbn
  replace hb := bel_to hb hbn
  obtain ⟨o_sD, c_sD, rfl⟩ := q3.shape
  have sD := q3.deps rfl hrD
  clear hbn q3
  go_wp2_with fail
  refine Calls.mono (c_specSatisfiesAll n _ _ R m _ _ D _ sT sD) ?_
  rintro e w4 ⟨rfl, hbn⟩
  replace tb0 := cell_keep tb0 hbn
  replace tb1 := cell_keep tb1 hbn
  replace sT := sT.keep hbn
  replace sD := sD.keep hbn
  replace hb := bel_to hb hbn
  clear hbn
  clear sT
  clear sD
  go_wp2_with fail
  refine (c_toTable n _ _ R _ (hR.keep hb)).mono ?_
  rintro e w5 ⟨o_xT, c_xT, rfl, xT, hbn⟩
  replace tb0 := cell_keep tb0 hbn
  replace tb1 := cell_keep tb1 hbn
  replace hb := bel_to hb hbn
  clear hbn
  have bx0 := box_at w5 #[.int .i64 n, .slice o_xT R.length c_xT] 28 0 _ rfl
  have bx1 := box_at w5 #[.int .i64 n, .slice o_xT R.length c_xT] 28 1 _ rfl
  have hbn := (Below.refl w5.heap.size w5).alloc (Nat.le_refl _) (.cells #[.int .i64 n, .slice o_xT R.length c_xT] 28)
  replace tb0 := cell_keep tb0 hbn
  replace tb1 := cell_keep tb1 hbn
  replace xT := xT.keep hbn
  replace hb := bel_to hb hbn
  clear hbn
  go_wp2_with fail
  refine (c_toDepS _ _ _ _ (hD.keep hb)).mono ?_
  rintro e w6 ⟨v6, rfl, q6, hbn⟩
  replace tb0 := cell_keep tb0 hbn
  replace tb1 := cell_keep tb1 hbn
  replace bx0 := cell_keep bx0 hbn
  replace bx1 := cell_keep bx1 hbn
  replace xT := xT.keep hbn
  replace hb := bel_to hb hbn
  obtain ⟨o_xD, c_xD, rfl⟩ := q6.shape
  have xD := q6.deps rfl hrD
  clear hbn q6
  go_wp2_with fail
  refine Calls.mono (c_SatisfiesAll n _ _ R m _ _ D _ xT xD) ?_
  rintro e w7 ⟨rfl, hbn⟩
  replace tb0 := cell_keep tb0 hbn
  replace tb1 := cell_keep tb1 hbn
  replace bx0 := cell_keep bx0 hbn
  replace bx1 := cell_keep bx1 hbn
  replace xT := xT.keep hbn
  replace xD := xD.keep hbn
  replace hb := bel_to hb hbn
  clear hbn
  go_wp2_with fail
  go_region_held3 (fun w' => w'.cell? ⟨w.heap.size, 0, none⟩ = some (.int .i64 n) ∧ w'.cell? ⟨w.heap.size, 1, none⟩ = some (.slice oT R.length cT) ∧ w'.cell? ⟨w5.heap.size, 0, none⟩ = some (.int .i64 n) ∧ w'.cell? ⟨w5.heap.size, 1, none⟩ = some (.slice o_xT R.length c_xT) ∧ Below w.heap.size w w' ∧ RowsAt w' o_xT R ∧ DepsAt w' o_xD D)
    (first | (rename_i hS _ _; exact ⟨cell_keep hS.1 hbn, cell_keep hS.2.1 hbn, cell_keep hS.2.2.1 hbn, cell_keep hS.2.2.2.1 hbn, bel_to hS.2.2.2.2.1 hbn, hS.2.2.2.2.2.1.keep hbn, hS.2.2.2.2.2.2.keep hbn⟩) | exact ⟨cell_keep tb0 (Below.refl _ _).drew, cell_keep tb1 (Below.refl _ _).drew, cell_keep bx0 (Below.refl _ _).drew, cell_keep bx1 (Below.refl _ _).drew, hb.drew, xT.keep (Below.refl _ _).drew, xD.keep (Below.refl _ _).drew⟩)
    (first
      | (go_at_call 27; rename_i hS _ _; refine (c_toTable n _ _ R _ (hR.keep hS.2.2.2.2.1)).mono ?_; rintro e w1 ⟨o1, c1, rfl, h1, hbn⟩)
      | (go_at_call 20; rename_i hS _ _; refine Calls.mono (c_eqTable n _ _ _ _ R _ hS.2.2.2.2.2.1 h1) ?_; rintro e w1 ⟨rfl, hbn⟩)
      | fail)
  rename_i hS
  replace hb := hS.2.2.2.2.1
  replace xD := hS.2.2.2.2.2.2
  clear hS hbn tb0 tb1 bx0 bx1 xT
  go_wp2_with fail
  refine (c_toDepS _ _ _ _ (hD.keep hb)).mono ?_
  rintro e w8 ⟨v8, rfl, q8, hbn⟩
  replace xD := xD.keep hbn
  replace hb := bel_to hb hbn
  obtain ⟨o_tD, c_tD, rfl⟩ := q8.shape
  have tD := q8.deps rfl hrD
  clear hbn q8
  go_wp2_with fail
  refine Calls.mono (Ans.eqb (b' := true) (c_eqDepS _ _ _ _ _ _ _ xD tD) (by simp)) ?_
  rintro e w9 ⟨rfl, hbn⟩
  replace xD := xD.keep hbn
  replace tD := tD.keep hbn
  replace hb := bel_to hb hbn
  clear hbn
  go_wp2
  go_ret
  exact ⟨rfl, hb⟩
end Go.Proofs.Ytjgfndbgenhjbaa
