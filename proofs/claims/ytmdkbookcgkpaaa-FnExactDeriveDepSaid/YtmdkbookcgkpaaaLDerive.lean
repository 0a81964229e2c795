/- The law of DeriveDep returns true. -/
import Derived.Test.YtmdkbookcgkpaaaLDeps
import Derived.Test.YtmdkbookcgkpaaaDerive2
import Derived.Test.YtmdkbookcgkpaaaDerive3
import Derived.Test.YtmdkbookcgkpaaaDer3
import Derived.Deep.RegionHeld3
namespace Go.Proofs.Ytmdkbookcgkpaaa
open Go.RowKit
set_option linter.unusedVariables false
set_option maxRecDepth 100000

set_option maxHeartbeats 3200000 in
theorem w_FnExactDeriveDep (w : World) (n : Int) (wfn : (Lit.int .i64 n).wf = true) {v : Value} (hv : InDeps w v) {x : Value} (hx : ∃ l r : Int, x = .agg #[.int .i64 l, .int .i64 r] ∧ (Lit.int .i64 l).wf = true ∧ (Lit.int .i64 r).wf = true) :
    Calls Try.prog 12 #[.int .i64 n, v, x] w fun e w' => e = .returned (.bool true) ∧ Below w.heap.size w w' := by
  obtain ⟨a, len, cap, rfl, hm, hD0⟩ := hv
  obtain ⟨l, r, rfl, _, _⟩ := hx
  have hb := (Below.refl w.heap.size w).alloc (Nat.le_refl _) (.cells #[.int .i64 l, .int .i64 r] 34)
  have b0 := box_at w #[.int .i64 l, .int .i64 r] 34 0 _ rfl
  have b1 := box_at w #[.int .i64 l, .int .i64 r] 34 1 _ rfl
  by_cases hbig : (1048576 : Int) < len
  · go_enter Try.func12, Try.ntmps12
    go_wp2_with (first | (go_at_call 19; refine Calls.mono (c_szDepS_no _ _ _ _ (by omega) hbig hm _) ?_; rintro e w1 ⟨rfl, hbn⟩; replace hb := bel_to (w := w) (by first | exact hb | exact hb.alloc hb.size _ | exact (hb.alloc hb.size _).alloc (Nat.le_trans hb.size (by simp)) _ | exact hb.setCell (by simp [hb.size]) _) hbn; clear hbn))
    go_ret
    exact ⟨rfl, hb⟩
  obtain ⟨D, rfl, hD⟩ := hD0 (room_of (by omega))
  have hle : (D.length : Int) ≤ 1048576 := by omega
  have hr := hD.len
  clear hbig
  generalize hB : impliesDepF n D l r = B
  go_enter Try.func12, Try.ntmps12
  go_wp2_with (first | (go_at_call 19; refine Calls.mono (c_szDepS_ok _ _ _ _ (by omega) hle _) ?_; rintro e w1 ⟨rfl, hbn⟩; replace b0 := cell_keep b0 hbn; replace b1 := cell_keep b1 hbn; replace hb := bel_to (w := w) (by first | exact hb | exact hb.alloc hb.size _ | exact (hb.alloc hb.size _).alloc (Nat.le_trans hb.size (by simp)) _ | exact hb.setCell (by simp [hb.size]) _) hbn; clear hbn))
  go_region_held3 (fun w' => w'.cell? ⟨w.heap.size, 0, none⟩ = some (.int .i64 l) ∧ w'.cell? ⟨w.heap.size, 1, none⟩ = some (.int .i64 r) ∧ Below w.heap.size w w')
    (first | (rename_i hS _ _; exact ⟨cell_keep hS.1 hbn, cell_keep hS.2.1 hbn, bel_to hS.2.2 hbn⟩) | exact ⟨cell_keep b0 (Below.refl _ _).drew, cell_keep b1 (Below.refl _ _).drew, hb.drew⟩)
    (first
      | (go_at_call 21; rename_i hS _ _; refine (c_toDepS _ _ _ _ (hD.keep hS.2.2)).mono ?_; rintro e w1 ⟨v1, rfl, h1, hbn⟩; obtain ⟨o1, c1, rfl, hL1⟩ := h1.reads hr; clear h1)
      | (go_at_call 25; refine Calls.mono (c_toDep _ _ _) ?_; rintro e w1 ⟨rfl, hbn⟩; replace hL1 := hL1.keep hbn)
      | (go_at_call 46; rename_i hS _ _; refine (c_specDeriveDep _ _ _ _ _ _ _ hL1).mono ?_; rw [hB]; rintro e w1 ⟨v1, Lw, rfl, HW, wO, hbn⟩; replace wO := wO.based hS.2.2.size; obtain ⟨ow, cw, rfl⟩ := wO.shape; clear hL1)
      | fail)
  rename_i hS
  replace b0 := hS.1
  replace b1 := hS.2.1
  replace hb := hS.2.2
  clear hS hbn
  have hlen : Lw.length ≤ Room := by have := HW.2.2; unfold Room; omega
  have hqm : ((1 : Int) + 3 * (Lw.length : Int) != 1 + 3 * (Lw.length : Int)) = false := by simp
  have hlt1 : decide ((1 : Int) + 3 * (Lw.length : Int) < 0) = false := by simp; omega
  go_wp2_with fail
  have old_wO := wO
  refine (c_toDepS _ _ _ _ (hD.keep hb)).mono ?_
  rintro e w1 ⟨v1, rfl, xD, hbn⟩
  have nb_xD : ∀ g, (v1).ownBlock = some g → w.heap.size < g := fun g hg => Nat.lt_of_lt_of_le (World.block_lt_of_cell? _ _ b0) (World.ownsRow.lt xD g hg).1
  have ap_wO_xD := apart_old old_wO xD
  clear old_wO
  replace wO := wO.keep hbn
  replace b0 := cell_keep b0 hbn
  replace b1 := cell_keep b1 hbn
  replace xD := xD.based hb.size
  replace hb := bel_to hb hbn
  obtain ⟨o1, c1, rfl⟩ := xD.shape
  clear hbn
  go_wp2_with fail
  refine Calls.mono (c_toDep _ _ _) ?_
  rintro e w2 ⟨rfl, hbn⟩
  replace wO := wO.keep hbn
  replace xD := xD.keep hbn
  replace b0 := cell_keep b0 hbn
  replace b1 := cell_keep b1 hbn
  replace hb := bel_to hb hbn
  clear hbn
  go_wp2_with fail
  have old_wO := wO
  have old_xD := xD
  refine (c_DeriveDep _ _ _ _ _ _ _ (xD.deps rfl hr)).mono ?_
  rw [hB]
  rintro e w3 ⟨v3, L3, rfl, H3, gO, hbn⟩
  obtain rfl := HW.same H3
  clear H3
  have nb_gO : ∀ g, (v3).ownBlock = some g → w.heap.size < g := fun g hg => Nat.lt_of_lt_of_le (World.block_lt_of_cell? _ _ b0) (World.ownsRow.lt gO g hg).1
  have ap_wO_gO := apart_old old_wO gO
  clear old_wO
  have ap_xD_gO := apart_old old_xD gO
  clear old_xD
  replace wO := wO.keep hbn
  replace xD := xD.keep hbn
  replace b0 := cell_keep b0 hbn
  replace b1 := cell_keep b1 hbn
  replace gO := gO.based hb.size
  replace hb := bel_to hb hbn
  obtain ⟨og, cg, rfl⟩ := gO.shape
  clear hbn
  go_wp2_with fail
  refine Calls.mono (Ans.eqb (b' := true) (c_eqDerivedS _ _ _ _ _ _ _ (gO.ders rfl hlen) (wO.ders rfl hlen)) (by simp)) ?_
  rintro e w4 ⟨rfl, hbn⟩
  replace wO := wO.keep hbn
  replace xD := xD.keep hbn
  replace gO := gO.keep hbn
  replace b0 := cell_keep b0 hbn
  replace b1 := cell_keep b1 hbn
  replace hb := bel_to hb hbn
  clear hbn
  go_wp2_with fail
  have old_wO := wO
  have old_xD := xD
  have old_gO := gO
  refine (c_toDepS _ _ _ _ (hD.keep hb)).mono ?_
  rintro e w5 ⟨v5, rfl, tD, hbn⟩
  have nb_tD : ∀ g, (v5).ownBlock = some g → w.heap.size < g := fun g hg => Nat.lt_of_lt_of_le (World.block_lt_of_cell? _ _ b0) (World.ownsRow.lt tD g hg).1
  have ap_wO_tD := apart_old old_wO tD
  clear old_wO
  have ap_xD_tD := apart_old old_xD tD
  clear old_xD
  have ap_gO_tD := apart_old old_gO tD
  clear old_gO
  replace wO := wO.keep hbn
  replace xD := xD.keep hbn
  replace gO := gO.keep hbn
  replace b0 := cell_keep b0 hbn
  replace b1 := cell_keep b1 hbn
  replace tD := tD.based hb.size
  replace hb := bel_to hb hbn
  obtain ⟨o5, c5, rfl⟩ := tD.shape
  clear hbn
  go_wp2_with fail
  refine Calls.mono (Ans.eqb (b' := true) (c_eqDepS _ _ _ _ _ _ _ (xD.deps rfl hr) (tD.deps rfl hr)) (by simp)) ?_
  rintro e w6 ⟨rfl, hbn⟩
  replace wO := wO.keep hbn
  replace xD := xD.keep hbn
  replace gO := gO.keep hbn
  replace tD := tD.keep hbn
  replace b0 := cell_keep b0 hbn
  replace b1 := cell_keep b1 hbn
  replace hb := bel_to hb hbn
  clear hbn
  clear tD
  clear nb_tD
  go_wp2_with fail
  have bel_xD := fun (x : World) (hg : World.grownBy _ x _) => below_mark hb xD hg
  refine Calls.mono (c_markDepS _ _ _ _ _ (by omega) _ hr xD) ?_
  rintro e w7 ⟨rfl, hm7, hg⟩
  replace wO := wO.far hg ap_wO_xD
  replace gO := gO.far hg ap_xD_gO.symm
  replace b0 := (hg.cell_far _ (World.block_lt_of_cell? _ _ b0) (fun e => absurd (nb_xD _ e.symm) (Nat.lt_irrefl _))).trans b0
  replace b1 := (hg.cell_far _ (World.block_lt_of_cell? _ _ b1) (fun e => absurd (nb_xD _ e.symm) (Nat.lt_irrefl _))).trans b1
  replace hb := bel_xD _ hg
  replace xD := hm7
  clear hg bel_xD nb_xD
  have hk0 : decide (1 + 2 * (D.length : Int) < 0) = false := by simp; omega
  go_wp2_with fail
  refine Calls.mono (Ans.eqb (b' := true) (c_eqDerivedS _ _ _ _ _ _ _ (gO.ders rfl hlen) (wO.ders rfl hlen)) (by simp)) ?_
  rintro e w8 ⟨rfl, hbn⟩
  replace wO := wO.keep hbn
  replace xD := xD.keep hbn
  replace gO := gO.keep hbn
  replace b0 := cell_keep b0 hbn
  replace b1 := cell_keep b1 hbn
  replace hb := bel_to hb hbn
  clear hbn
  clear xD
  go_wp2_with fail
  have bel_gO := fun (x : World) (hg : World.grownBy _ x _) => below_mark hb gO hg
  refine Calls.mono (c_markDerivedS _ _ _ _ _ (by omega) _ hlen gO) ?_
  rintro e w9 ⟨rfl, hm9, hg⟩
  replace wO := wO.far hg ap_wO_gO
  replace b0 := (hg.cell_far _ (World.block_lt_of_cell? _ _ b0) (fun e => absurd (nb_gO _ e.symm) (Nat.lt_irrefl _))).trans b0
  replace b1 := (hg.cell_far _ (World.block_lt_of_cell? _ _ b1) (fun e => absurd (nb_gO _ e.symm) (Nat.lt_irrefl _))).trans b1
  replace hb := bel_gO _ hg
  replace gO := hm9
  clear hg bel_gO nb_gO
  go_wp2_with fail
  refine Calls.mono (c_heldDerivedS _ _ _ _ (by omega) _ (gO.ders (seqT_length _ _).symm (by rw [seqT_length]; exact hlen))) ?_
  rintro e w10 ⟨rfl, hbn⟩
  replace wO := wO.keep hbn
  replace gO := gO.keep hbn
  replace b0 := cell_keep b0 hbn
  replace b1 := cell_keep b1 hbn
  replace hb := bel_to hb hbn
  clear hbn
  go_wp2_with fail
  go_region_held3 (fun w' => w'.cell? ⟨w.heap.size, 0, none⟩ = some (.int .i64 l) ∧ w'.cell? ⟨w.heap.size, 1, none⟩ = some (.int .i64 r) ∧ Below w.heap.size w w' ∧ OwnT w' w.heap.size (.slice ow Lw.length cw) Lw ∧ OwnT w' w.heap.size (.slice og Lw.length cg) (seqT 1 Lw.length))
    (first | (rename_i hS _ _; exact ⟨cell_keep hS.1 hbn, cell_keep hS.2.1 hbn, bel_to hS.2.2.1 hbn, hS.2.2.2.1.keep hbn, hS.2.2.2.2.keep hbn⟩) | exact ⟨cell_keep b0 (Below.refl _ _).drew, cell_keep b1 (Below.refl _ _).drew, hb.drew, wO.keep (Below.refl _ _).drew, gO.keep (Below.refl _ _).drew⟩)
    (first
      | (go_at_call 21; rename_i hS _ _; refine (c_toDepS _ _ _ _ (hD.keep hS.2.2.1)).mono ?_; rintro e w1 ⟨v1, rfl, h1, hbn⟩; obtain ⟨o1, c1, rfl, hL1⟩ := h1.reads hr; clear h1)
      | (go_at_call 25; refine Calls.mono (c_toDep _ _ _) ?_; rintro e w1 ⟨rfl, hbn⟩; replace hL1 := hL1.keep hbn)
      | (go_at_call 47; rename_i hS _ _; refine (c_DeriveDep _ _ _ _ _ _ _ hL1).mono ?_; rw [hB]; rintro e w1 ⟨v1, Lh, rfl, HH, hO, hbn⟩; obtain rfl := HW.same HH; replace hO := hO.based hS.2.2.1.size; obtain ⟨oh, ch, rfl⟩ := hO.shape; clear hL1)
      | fail)
  rename_i hS
  replace b0 := hS.1
  replace b1 := hS.2.1
  replace hb := hS.2.2.1
  replace wO := hS.2.2.2.1
  replace gO := hS.2.2.2.2
  clear hS hbn
  go_wp2_with fail
  refine Calls.mono (Ans.eqb (b' := true) (c_eqDerivedS _ _ _ _ _ _ _ (hO.ders rfl hlen) (wO.ders rfl hlen)) (by simp)) ?_
  rintro e w11 ⟨rfl, hbn⟩
  replace wO := wO.keep hbn
  replace gO := gO.keep hbn
  replace hO := hO.keep hbn
  replace b0 := cell_keep b0 hbn
  replace b1 := cell_keep b1 hbn
  replace hb := bel_to hb hbn
  clear hbn
  go_wp2_with fail
  refine Calls.mono (c_heldDerivedS _ _ _ _ (by omega) _ (gO.ders (seqT_length _ _).symm (by rw [seqT_length]; exact hlen))) ?_
  rintro e w12 ⟨rfl, hbn⟩
  replace wO := wO.keep hbn
  replace gO := gO.keep hbn
  replace hO := hO.keep hbn
  replace b0 := cell_keep b0 hbn
  replace b1 := cell_keep b1 hbn
  replace hb := bel_to hb hbn
  clear hbn
  go_wp2
  go_ret
  exact ⟨rfl, hb⟩
end Go.Proofs.Ytmdkbookcgkpaaa
