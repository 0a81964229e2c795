/- The law of CheckDerivation returns true. -/
import Derived.Test.YtmdkbookcgkpaaaLDeps
import Derived.Test.YtmdkbookcgkpaaaCheck2
import Derived.Test.YtmdkbookcgkpaaaDer2
import Derived.Deep.RegionHeld3
namespace Go.Proofs.Ytmdkbookcgkpaaa
open Go.RowKit
set_option linter.unusedVariables false
set_option maxRecDepth 100000

set_option maxHeartbeats 1600000 in
theorem w_FnExactCheckDerivation (w : World) (n : Int) (wfn : (Lit.int .i64 n).wf = true) {v : Value} (hv : InDeps w v) {x : Value} (hx : ∃ l r : Int, x = .agg #[.int .i64 l, .int .i64 r] ∧ (Lit.int .i64 l).wf = true ∧ (Lit.int .i64 r).wf = true) {u : Value} (hu : InDers w u) :
    Calls Try.prog 9 #[.int .i64 n, v, x, u] w fun e w' => e = .returned (.bool true) ∧ Below w.heap.size w w' := by
  obtain ⟨a, len, cap, rfl, hm, hD0⟩ := hv
  obtain ⟨l, r, rfl, _, _⟩ := hx
  obtain ⟨a2, len2, cap2, rfl, hm2, hS0⟩ := hu
  have hb := (Below.refl w.heap.size w).alloc (Nat.le_refl _) (.cells #[.int .i64 l, .int .i64 r] 34)
  have b0 := box_at w #[.int .i64 l, .int .i64 r] 34 0 _ rfl
  have b1 := box_at w #[.int .i64 l, .int .i64 r] 34 1 _ rfl
  by_cases hbig : (1048576 : Int) < len
  · go_enter Try.func9, Try.ntmps9
    go_wp2_with (first | (go_at_call 19; refine Calls.mono (c_szDepS_no _ _ _ _ (by omega) hbig hm _) ?_; rintro e w1 ⟨rfl, hbn⟩; replace hb := bel_to (w := w) (by first | exact hb | exact hb.alloc hb.size _ | exact (hb.alloc hb.size _).alloc (Nat.le_trans hb.size (by simp)) _ | exact hb.setCell (by simp [hb.size]) _) hbn; clear hbn))
    go_ret
    exact ⟨rfl, hb⟩
  obtain ⟨D, rfl, hD⟩ := hD0 (room_of (by omega))
  have hle : (D.length : Int) ≤ 1048576 := by omega
  have hr := hD.len
  by_cases hbig2 : (1048576 : Int) - (D.length : Int) < len2
  · go_enter Try.func9, Try.ntmps9
    go_wp2_with (first | (go_at_call 19; refine Calls.mono (c_szDepS_ok _ _ _ _ (by omega) hle _) ?_; rintro e w1 ⟨rfl, hbn⟩; replace hb := bel_to (w := w) (by first | exact hb | exact hb.alloc hb.size _ | exact (hb.alloc hb.size _).alloc (Nat.le_trans hb.size (by simp)) _ | exact hb.setCell (by simp [hb.size]) _) hbn; clear hbn) | (go_at_call 34; refine Calls.mono (c_szDerivedS_no _ _ _ _ (by omega) hbig2 hm2 _) ?_; rintro e w1 ⟨rfl, hbn⟩; replace hb := bel_to (w := w) (by first | exact hb | exact hb.alloc hb.size _ | exact (hb.alloc hb.size _).alloc (Nat.le_trans hb.size (by simp)) _ | exact hb.setCell (by simp [hb.size]) _) hbn; clear hbn))
    go_ret
    exact ⟨rfl, hb⟩
  obtain ⟨S, rfl, hT0⟩ := hS0 (room_of (by omega))
  have hle2 : (S.length : Int) ≤ 1048576 - (D.length : Int) := by omega
  have hr2 := hT0.len
  clear hbig hbig2
  go_enter Try.func9, Try.ntmps9
  go_wp2_with (first | (go_at_call 19; refine Calls.mono (c_szDepS_ok _ _ _ _ (by omega) hle _) ?_; rintro e w1 ⟨rfl, hbn⟩; replace b0 := cell_keep b0 hbn; replace b1 := cell_keep b1 hbn; replace hb := bel_to (w := w) (by first | exact hb | exact hb.alloc hb.size _ | exact (hb.alloc hb.size _).alloc (Nat.le_trans hb.size (by simp)) _ | exact hb.setCell (by simp [hb.size]) _) hbn; clear hbn) | (go_at_call 34; refine Calls.mono (c_szDerivedS_ok _ _ _ _ (by omega) hle2 _) ?_; rintro e w1 ⟨rfl, hbn⟩; replace b0 := cell_keep b0 hbn; replace b1 := cell_keep b1 hbn; replace hb := bel_to (w := w) (by first | exact hb | exact hb.alloc hb.size _ | exact (hb.alloc hb.size _).alloc (Nat.le_trans hb.size (by simp)) _ | exact hb.setCell (by simp [hb.size]) _) hbn; clear hbn))
  go_region_held3 (fun w' => w'.cell? ⟨w.heap.size, 0, none⟩ = some (.int .i64 l) ∧ w'.cell? ⟨w.heap.size, 1, none⟩ = some (.int .i64 r) ∧ Below w.heap.size w w')
    (first | (rename_i hS _ _; exact ⟨cell_keep hS.1 hbn, cell_keep hS.2.1 hbn, bel_to hS.2.2 hbn⟩) | exact ⟨cell_keep b0 (Below.refl _ _).drew, cell_keep b1 (Below.refl _ _).drew, hb.drew⟩)
    (first
      | (go_at_call 21; rename_i hS _ _; refine (c_toDepS _ _ _ _ (hD.keep hS.2.2)).mono ?_; rintro e w1 ⟨v1, rfl, h1, hbn⟩; obtain ⟨o1, c1, rfl, hL1⟩ := h1.reads hr; clear h1)
      | (go_at_call 25; refine Calls.mono (c_toDep _ _ _) ?_; rintro e w1 ⟨rfl, hbn⟩; replace hL1 := hL1.keep hbn)
      | (go_at_call 36; rename_i hS _ _; refine (c_toDerivedS _ _ _ _ (hT0.keep hS.2.2)).mono ?_; rintro e w1 ⟨v2, rfl, h2, hbn⟩; obtain ⟨o2, c2, rfl, hT1⟩ := h2.reads hr2; clear h2; replace hL1 := hL1.keep hbn)
      | (go_at_call 35; refine Calls.mono (c_specCheckDerivation _ _ _ _ _ _ _ _ _ _ hL1 hT1) ?_; rintro e w1 ⟨rfl, hbn⟩; clear hL1 hT1)
      | fail)
  rename_i hQ
  replace b0 := hQ.1
  replace b1 := hQ.2.1
  replace hb := hQ.2.2
  clear hQ hbn
  go_wp2_with fail
  refine (c_toDepS _ _ _ _ (hD.keep hb)).mono ?_
  rintro e w2 ⟨v2, rfl, h2, hbn⟩
  replace b0 := cell_keep b0 hbn
  replace b1 := cell_keep b1 hbn
  replace hb := bel_to hb hbn
  obtain ⟨o2, c2, rfl, hL2⟩ := h2.reads hr
  clear h2 hbn
  go_wp2_with fail
  refine (c_toDerivedS _ _ _ _ (hT0.keep hb)).mono ?_
  rintro e w2 ⟨v2, rfl, h2, hbn⟩
  replace b0 := cell_keep b0 hbn
  replace b1 := cell_keep b1 hbn
  replace hb := bel_to hb hbn
  replace hL2 := hL2.keep hbn
  obtain ⟨o3, c3, rfl, hT2⟩ := h2.reads hr2
  clear h2 hbn
  go_wp2_with fail
  refine Calls.mono (c_toDep _ _ _) ?_
  rintro e w3 ⟨rfl, hbn⟩
  replace hb := bel_to hb hbn
  replace hL2 := hL2.keep hbn
  replace hT2 := hT2.keep hbn
  clear b0 b1 hbn
  go_wp2_with fail
  refine Calls.mono (c_CheckDerivation _ _ _ _ _ _ _ _ _ _ hL2 hT2) ?_
  rintro e w4 ⟨rfl, hbn⟩
  replace hb := bel_to hb hbn
  replace hL2 := hL2.keep hbn
  replace hT2 := hT2.keep hbn
  clear hbn
  go_wp2_with fail
  refine (c_toDepS _ _ _ _ (hD.keep hb)).mono ?_
  rintro e w5 ⟨v5, rfl, h5, hbn⟩
  replace hb := bel_to hb hbn
  replace hL2 := hL2.keep hbn
  replace hT2 := hT2.keep hbn
  obtain ⟨o5, c5, rfl, hL5⟩ := h5.reads hr
  clear h5 hbn
  go_wp2_with fail
  refine Calls.mono (Ans.eqb (b' := true) (c_eqDepS _ _ _ _ _ _ _ hL2 hL5) (by simp)) ?_
  rintro e w6 ⟨rfl, hbn⟩
  replace hb := bel_to hb hbn
  replace hT2 := hT2.keep hbn
  clear hbn hL2 hL5
  go_wp2_with fail
  refine (c_toDerivedS _ _ _ _ (hT0.keep hb)).mono ?_
  rintro e w7 ⟨v7, rfl, h7, hbn⟩
  replace hb := bel_to hb hbn
  replace hT2 := hT2.keep hbn
  obtain ⟨o7, c7, rfl, hT7⟩ := h7.reads hr2
  clear h7 hbn
  go_wp2_with fail
  refine Calls.mono (Ans.eqb (b' := true) (c_eqDerivedS _ _ _ _ _ _ _ hT2 hT7) (by simp)) ?_
  rintro e w8 ⟨rfl, hbn⟩
  replace hb := bel_to hb hbn
  go_wp2
  go_ret
  exact ⟨rfl, hb⟩
end Go.Proofs.Ytmdkbookcgkpaaa
