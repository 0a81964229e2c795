/- The law of RowsToRemove returns true. -/
import Derived.Test.YtkanbnbofoabeaaRtr
import Derived.Test.YtkanbnbofoabeaaOpenTab
import Derived.Test.YtkanbnbofoabeaaConv
import Derived.Deep.RegionHeld3
namespace Go.Proofs.Ytkanbnbofoabeaa
open Go.RowKit
set_option linter.unusedVariables false
set_option maxRecDepth 100000

set_option maxHeartbeats 1600000 in
theorem w_FnExactRowsToRemove (w : World) {vT : Value} (inT : InTab w vT) (m : Int) (wf_m : (Lit.int .i64 m).wf = true) {vd : Value} (hd : ∃ l r : Int, vd = .agg #[.int .i64 l, .int .i64 r] ∧ (Lit.int .i64 l).wf = true ∧ (Lit.int .i64 r).wf = true) :
    Calls Try.prog 7 #[vT, .int .i64 m, vd] w fun e w' => e = .returned (.bool true) ∧ Below w.heap.size w w' := by
  obtain ⟨n, oT, lT, cT, Ln, rfl, hRI⟩ := inT
  obtain ⟨l, r, rfl, _, _⟩ := hd
  have hb := bel2 w (.cells #[.int .i64 n, .slice oT lT cT] 40) (.cells #[.int .i64 l, .int .i64 r] 24)
  have tb0 := two_a w #[.int .i64 n, .slice oT lT cT] 40 #[.int .i64 l, .int .i64 r] 24 0 _ rfl
  have tb1 := two_a w #[.int .i64 n, .slice oT lT cT] 40 #[.int .i64 l, .int .i64 r] 24 1 _ rfl
  have db0 := two_b w #[.int .i64 n, .slice oT lT cT] 40 #[.int .i64 l, .int .i64 r] 24 0 _ rfl
  have db1 := two_b w #[.int .i64 n, .slice oT lT cT] 40 #[.int .i64 l, .int .i64 r] 24 1 _ rfl
  go_enter Try.func7, Try.ntmps7
  go_wp2_with fail
  refine (c_szTable n _ _ _ _ _ (hRI.keep hb)).mono ?_
  rintro e w0 ⟨⟨x, rfl, hx⟩, hbn⟩
  replace tb0 := cell_keep tb0 hbn
  replace tb1 := cell_keep tb1 hbn
  replace db0 := cell_keep db0 hbn
  replace db1 := cell_keep db1 hbn
  replace hb := bel_to hb hbn
  clear hbn
  rcases hx with rfl | ⟨hx0, hx1, hx2, hx3⟩
  · go_wp2
    go_ret
    exact ⟨rfl, hb⟩
  obtain ⟨R, rfl, hR⟩ := hRI.read (by unfold Room; omega) (fun r hr => by have := hx3 r hr; unfold Room; omega)
  clear hx3 hRI
  go_wp2_with fail
  go_region_held3 (fun w' => w'.cell? ⟨w.heap.size, 0, none⟩ = some (.int .i64 n) ∧ w'.cell? ⟨w.heap.size, 1, none⟩ = some (.slice oT R.length cT) ∧ w'.cell? ⟨w.heap.size + 1, 0, none⟩ = some (.int .i64 l) ∧ w'.cell? ⟨w.heap.size + 1, 1, none⟩ = some (.int .i64 r) ∧ Below w.heap.size w w')
    (first | (rename_i hS _ _; exact ⟨cell_keep hS.1 hbn, cell_keep hS.2.1 hbn, cell_keep hS.2.2.1 hbn, cell_keep hS.2.2.2.1 hbn, bel_to hS.2.2.2.2 hbn⟩) | exact ⟨cell_keep tb0 (Below.refl _ _).drew, cell_keep tb1 (Below.refl _ _).drew, cell_keep db0 (Below.refl _ _).drew, cell_keep db1 (Below.refl _ _).drew, hb.drew⟩)
    (first
      | (go_at_call 28; rename_i hS _ _; refine (c_toTable n _ _ R _ (hR.keep hS.2.2.2.2)).mono ?_; rintro e wz ⟨o1, c1, rfl, h1, hbn⟩)
      | (go_at_call 19; refine Calls.mono (c_toDep _ _ _) ?_; rintro e wz ⟨rfl, hbn⟩; replace h1 := h1.keep hbn)
      | (go_at_call 37; refine Calls.mono (c_specRowsToRemove n _ _ R m l r _ h1) ?_; rintro e wz ⟨rfl, hbn⟩; clear h1)
      | fail)
  rename_i hS
  replace tb0 := hS.1
  replace tb1 := hS.2.1
  replace db0 := hS.2.2.1
  replace db1 := hS.2.2.2.1
  replace hb := hS.2.2.2.2
  clear hS hbn
  go_wp2_with fail
  refine (c_toTable n _ _ R _ (hR.keep hb)).mono ?_
  rintro e w1 ⟨o_xT, c_xT, rfl, xT, hbn⟩
  replace tb0 := cell_keep tb0 hbn
  replace tb1 := cell_keep tb1 hbn
  replace db0 := cell_keep db0 hbn
  replace db1 := cell_keep db1 hbn
  replace hb := bel_to hb hbn
  clear hbn
  have bx0 := box_at w1 #[.int .i64 n, .slice o_xT R.length c_xT] 28 0 _ rfl
  have bx1 := box_at w1 #[.int .i64 n, .slice o_xT R.length c_xT] 28 1 _ rfl
  have hbn := (Below.refl w1.heap.size w1).alloc (Nat.le_refl _) (.cells #[.int .i64 n, .slice o_xT R.length c_xT] 28)
  replace tb0 := cell_keep tb0 hbn
  replace tb1 := cell_keep tb1 hbn
  replace db0 := cell_keep db0 hbn
  replace db1 := cell_keep db1 hbn
  replace xT := xT.keep hbn
  replace hb := bel_to hb hbn
  clear hbn
  go_wp2_with fail
  go_region_held3 (fun w' => w'.cell? ⟨w.heap.size, 0, none⟩ = some (.int .i64 n) ∧ w'.cell? ⟨w.heap.size, 1, none⟩ = some (.slice oT R.length cT) ∧ w'.cell? ⟨w.heap.size + 1, 0, none⟩ = some (.int .i64 l) ∧ w'.cell? ⟨w.heap.size + 1, 1, none⟩ = some (.int .i64 r) ∧ Below w.heap.size w w' ∧ w'.cell? ⟨w1.heap.size, 0, none⟩ = some (.int .i64 n) ∧ w'.cell? ⟨w1.heap.size, 1, none⟩ = some (.slice o_xT R.length c_xT) ∧ RowsAt w' o_xT R)
    (first | (rename_i hS _ _; exact ⟨cell_keep hS.1 hbn, cell_keep hS.2.1 hbn, cell_keep hS.2.2.1 hbn, cell_keep hS.2.2.2.1 hbn, bel_to hS.2.2.2.2.1 hbn, cell_keep hS.2.2.2.2.2.1 hbn, cell_keep hS.2.2.2.2.2.2.1 hbn, hS.2.2.2.2.2.2.2.keep hbn⟩) | exact ⟨cell_keep tb0 (Below.refl _ _).drew, cell_keep tb1 (Below.refl _ _).drew, cell_keep db0 (Below.refl _ _).drew, cell_keep db1 (Below.refl _ _).drew, hb.drew, cell_keep bx0 (Below.refl _ _).drew, cell_keep bx1 (Below.refl _ _).drew, xT.keep (Below.refl _ _).drew⟩)
    (first
      | (go_at_call 19; refine Calls.mono (c_toDep _ _ _) ?_; rintro e wz ⟨rfl, hbn⟩)
      | (go_at_call 38; rename_i hS _ _; refine Calls.mono (c_RowsToRemove n _ _ R m l r _ hS.2.2.2.2.2.2.2) ?_; rintro e wz ⟨rfl, hbn⟩)
      | fail)
  rename_i hS
  replace tb0 := hS.1
  replace tb1 := hS.2.1
  replace db0 := hS.2.2.1
  replace db1 := hS.2.2.2.1
  replace hb := hS.2.2.2.2.1
  replace bx0 := hS.2.2.2.2.2.1
  replace bx1 := hS.2.2.2.2.2.2.1
  replace xT := hS.2.2.2.2.2.2.2
  clear hS hbn
  go_wp2_with fail
  go_region_held3 (fun w' => w'.cell? ⟨w.heap.size, 0, none⟩ = some (.int .i64 n) ∧ w'.cell? ⟨w.heap.size, 1, none⟩ = some (.slice oT R.length cT) ∧ w'.cell? ⟨w.heap.size + 1, 0, none⟩ = some (.int .i64 l) ∧ w'.cell? ⟨w.heap.size + 1, 1, none⟩ = some (.int .i64 r) ∧ Below w.heap.size w w' ∧ w'.cell? ⟨w1.heap.size, 0, none⟩ = some (.int .i64 n) ∧ w'.cell? ⟨w1.heap.size, 1, none⟩ = some (.slice o_xT R.length c_xT) ∧ RowsAt w' o_xT R)
    (first | (rename_i hS _ _; exact ⟨cell_keep hS.1 hbn, cell_keep hS.2.1 hbn, cell_keep hS.2.2.1 hbn, cell_keep hS.2.2.2.1 hbn, bel_to hS.2.2.2.2.1 hbn, cell_keep hS.2.2.2.2.2.1 hbn, cell_keep hS.2.2.2.2.2.2.1 hbn, hS.2.2.2.2.2.2.2.keep hbn⟩) | exact ⟨cell_keep tb0 (Below.refl _ _).drew, cell_keep tb1 (Below.refl _ _).drew, cell_keep db0 (Below.refl _ _).drew, cell_keep db1 (Below.refl _ _).drew, hb.drew, cell_keep bx0 (Below.refl _ _).drew, cell_keep bx1 (Below.refl _ _).drew, xT.keep (Below.refl _ _).drew⟩)
    (first
      | (go_at_call 28; rename_i hS _ _; refine (c_toTable n _ _ R _ (hR.keep hS.2.2.2.2.1)).mono ?_; rintro e wz ⟨o1, c1, rfl, h1, hbn⟩)
      | (go_at_call 21; rename_i hS _ _; refine Calls.mono (c_eqTable n _ _ _ _ R _ hS.2.2.2.2.2.2.2 h1) ?_; rintro e wz ⟨rfl, hbn⟩)
      | fail)
  rename_i hS
  replace hb := hS.2.2.2.2.1
  go_wp2
  go_ret
  exact ⟨rfl, hb⟩
end Go.Proofs.Ytkanbnbofoabeaa
