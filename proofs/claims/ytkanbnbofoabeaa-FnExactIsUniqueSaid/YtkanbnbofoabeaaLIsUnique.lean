/- The law of IsUnique returns true. -/
import Derived.Test.YtkanbnbofoabeaaUniq
import Derived.Test.YtkanbnbofoabeaaOpenTab
import Derived.Test.YtkanbnbofoabeaaConv
import Derived.Test.YtkanbnbofoabeaaMark
import Derived.Deep.RegionHeld3
namespace Go.Proofs.Ytkanbnbofoabeaa
open Go.RowKit
set_option linter.unusedVariables false
set_option maxRecDepth 100000

set_option maxHeartbeats 1600000 in
theorem w_FnExactIsUnique (w : World) {vT : Value} (inT : InTab w vT) (m : Int) (wf_m : (Lit.int .i64 m).wf = true) (s : Int) (wf_s : (Lit.int .i64 s).wf = true) :
    Calls Try.prog 4 #[vT, .int .i64 m, .int .i64 s] w fun e w' => e = .returned (.bool true) ∧ Below w.heap.size w w' := by
  obtain ⟨n, oT, lT, cT, Ln, rfl, hRI⟩ := inT
  have hb := (Below.refl w.heap.size w).alloc (Nat.le_refl _) (.cells #[.int .i64 n, .slice oT lT cT] 40)
  have tb0 := box_at w #[.int .i64 n, .slice oT lT cT] 40 0 _ rfl
  have tb1 := box_at w #[.int .i64 n, .slice oT lT cT] 40 1 _ rfl
  go_enter Try.func4, Try.ntmps4
  go_wp2_with fail
  refine (c_szTable n _ _ _ _ _ (hRI.keep hb)).mono ?_
  rintro e w0 ⟨⟨x, rfl, hx⟩, hbn⟩
  replace tb0 := cell_keep tb0 hbn
  replace tb1 := cell_keep tb1 hbn
  replace hb := bel_to hb hbn
  clear hbn
  rcases hx with rfl | ⟨hx0, hx1, hx2, hx3⟩
  · go_wp2
    go_ret
    exact ⟨rfl, hb⟩
  obtain ⟨R, rfl, hR⟩ := hRI.read (by unfold Room; omega) (fun r hr => by have := hx3 r hr; unfold Room; omega)
  clear hx3 hRI
  go_wp2_with fail
  refine (c_toTable n _ _ R _ (hR.keep hb)).mono ?_
  rintro e w1 ⟨o_sT, c_sT, rfl, sT, hbn⟩
  replace tb0 := cell_keep tb0 hbn
  replace tb1 := cell_keep tb1 hbn
  replace hb := bel_to hb hbn
  clear hbn
  go_wp2_with fail
  refine Calls.mono (c_specIsUnique n _ _ R m s _ sT) ?_
  rintro e w2 ⟨rfl, hbn⟩
  replace tb0 := cell_keep tb0 hbn
  replace tb1 := cell_keep tb1 hbn
  replace sT := sT.keep hbn
  replace hb := bel_to hb hbn
  clear hbn
  clear sT
  go_wp2_with fail
  refine (c_toTable n _ _ R _ (hR.keep hb)).mono ?_
  rintro e w3 ⟨o_xT, c_xT, rfl, xT, hbn⟩
  replace tb0 := cell_keep tb0 hbn
  replace tb1 := cell_keep tb1 hbn
  replace hb := bel_to hb hbn
  clear hbn
  have bx0 := box_at w3 #[.int .i64 n, .slice o_xT R.length c_xT] 28 0 _ rfl
  have bx1 := box_at w3 #[.int .i64 n, .slice o_xT R.length c_xT] 28 1 _ rfl
  have hbn := (Below.refl w3.heap.size w3).alloc (Nat.le_refl _) (.cells #[.int .i64 n, .slice o_xT R.length c_xT] 28)
  replace tb0 := cell_keep tb0 hbn
  replace tb1 := cell_keep tb1 hbn
  replace xT := xT.keep hbn
  replace hb := bel_to hb hbn
  clear hbn
  go_wp2_with fail
  refine Calls.mono (c_IsUnique n _ _ R m s _ xT) ?_
  rintro e w4 ⟨rfl, hbn⟩
  replace tb0 := cell_keep tb0 hbn
  replace tb1 := cell_keep tb1 hbn
  replace bx0 := cell_keep bx0 hbn
  replace bx1 := cell_keep bx1 hbn
  replace xT := xT.keep hbn
  replace hb := bel_to hb hbn
  clear hbn
  go_wp2_with fail
  go_region_held3 (fun w' => w'.cell? ⟨w.heap.size, 0, none⟩ = some (.int .i64 n) ∧ w'.cell? ⟨w.heap.size, 1, none⟩ = some (.slice oT R.length cT) ∧ w'.cell? ⟨w3.heap.size, 0, none⟩ = some (.int .i64 n) ∧ w'.cell? ⟨w3.heap.size, 1, none⟩ = some (.slice o_xT R.length c_xT) ∧ Below w.heap.size w w' ∧ RowsAt w' o_xT R ∧ True)
    (first | (rename_i hS _ _; exact ⟨cell_keep hS.1 hbn, cell_keep hS.2.1 hbn, cell_keep hS.2.2.1 hbn, cell_keep hS.2.2.2.1 hbn, bel_to hS.2.2.2.2.1 hbn, hS.2.2.2.2.2.1.keep hbn, trivial⟩) | exact ⟨cell_keep tb0 (Below.refl _ _).drew, cell_keep tb1 (Below.refl _ _).drew, cell_keep bx0 (Below.refl _ _).drew, cell_keep bx1 (Below.refl _ _).drew, hb.drew, xT.keep (Below.refl _ _).drew, trivial⟩)
    (first
      | (go_at_call 28; rename_i hS _ _; refine (c_toTable n _ _ R _ (hR.keep hS.2.2.2.2.1)).mono ?_; rintro e wz ⟨o1, c1, rfl, h1, hbn⟩)
      | (go_at_call 21; rename_i hS _ _; refine Calls.mono (c_eqTable n _ _ _ _ R _ hS.2.2.2.2.2.1 h1) ?_; rintro e wz ⟨rfl, hbn⟩)
      | fail)
  rename_i hS
  replace hb := hS.2.2.2.2.1
  go_wp2
  go_ret
  exact ⟨rfl, hb⟩
end Go.Proofs.Ytkanbnbofoabeaa
