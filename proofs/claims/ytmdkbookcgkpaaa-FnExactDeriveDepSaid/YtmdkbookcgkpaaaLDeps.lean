/- The laws of AreDeps, ImpliesDep, ClosureOf return true. -/
import Derived.Test.YtmdkbookcgkpaaaConv
import Derived.Deep.RegionHeld3
namespace Go.Proofs.Ytmdkbookcgkpaaa
open Go.RowKit
set_option linter.unusedVariables false
set_option maxRecDepth 100000

theorem room_of {n : Nat} (h : (n : Int) ≤ 1048576) : n ≤ Room := by unfold Room; omega

theorem w_FnExactAreDeps (w : World) (n : Int) (wfn : (Lit.int .i64 n).wf = true) {v : Value} (hv : InDeps w v) :
    Calls Try.prog 4 #[.int .i64 n, v] w fun e w' => e = .returned (.bool true) ∧ Below w.heap.size w w' := by
  obtain ⟨a, len, cap, rfl, hm, hD0⟩ := hv
  have hb := Below.refl w.heap.size w
  by_cases hbig : (1048576 : Int) < len
  · go_enter Try.func4, Try.ntmps4
    go_wp2_with (first | (go_at_call 19; refine Calls.mono (c_szDepS_no _ _ _ _ (by omega) hbig hm _) ?_; rintro e w1 ⟨rfl, hbn⟩; replace hb := bel_to (w := w) (by first | exact hb | exact hb.alloc hb.size _ | exact (hb.alloc hb.size _).alloc (Nat.le_trans hb.size (by simp)) _ | exact hb.setCell (by simp [hb.size]) _) hbn; clear hbn))
    go_ret
    exact ⟨rfl, hb⟩
  · obtain ⟨D, rfl, hD⟩ := hD0 (room_of (by omega))
    have hle : (D.length : Int) ≤ 1048576 := by omega
    have hr := hD.len
    go_enter Try.func4, Try.ntmps4
    go_wp2_with (first | (go_at_call 19; refine Calls.mono (c_szDepS_ok _ _ _ _ (by omega) hle _) ?_; rintro e w1 ⟨rfl, hbn⟩; replace hb := bel_to (w := w) (by first | exact hb | exact hb.alloc hb.size _ | exact (hb.alloc hb.size _).alloc (Nat.le_trans hb.size (by simp)) _ | exact hb.setCell (by simp [hb.size]) _) hbn; clear hbn))
    refine (c_toDepS _ _ _ _ (hD.keep hb)).mono ?_
    rintro e w1 ⟨v1, rfl, h1, hb1⟩
    replace hb := bel_to hb hb1
    obtain ⟨o1, c1, rfl, hL1⟩ := h1.reads hr
    clear h1 hb1
    go_wp2_with (first | (go_at_call 20; refine Calls.mono (c_specAreDeps _ _ _ _ _ hL1) ?_; rintro e w1 ⟨rfl, hbn⟩; replace hb := bel_to (w := w) (by first | exact hb | exact hb.alloc hb.size _ | exact (hb.alloc hb.size _).alloc (Nat.le_trans hb.size (by simp)) _ | exact hb.setCell (by simp [hb.size]) _) hbn; clear hbn))
    refine (c_toDepS _ _ _ _ (hD.keep hb)).mono ?_
    rintro e w2 ⟨v2, rfl, h2, hb2⟩
    replace hb := bel_to hb hb2
    obtain ⟨o2, c2, rfl, hL2⟩ := h2.reads hr
    clear h2 hb2 hL1
    go_wp2_with fail
    refine Calls.mono (c_AreDeps _ _ _ _ _ hL2) ?_
    rintro e w3 ⟨rfl, hb3⟩
    replace hb := bel_to hb hb3
    replace hL2 := hL2.keep hb3
    clear hb3
    go_wp2_with fail
    refine (c_toDepS _ _ _ _ (hD.keep hb)).mono ?_
    rintro e w4 ⟨v4, rfl, h4, hb4⟩
    replace hb := bel_to hb hb4
    replace hL2 := hL2.keep hb4
    obtain ⟨o4, c4, rfl, hL4⟩ := h4.reads hr
    clear h4 hb4
    go_wp2_with fail
    refine Calls.mono (c_eqDepS _ _ _ _ _ _ _ hL2 hL4) ?_
    rintro e w5 ⟨rfl, hb5⟩
    replace hb := bel_to hb hb5
    have ht : (decide (D = D)) = true := by simp
    go_wp2
    go_ret
    exact ⟨rfl, hb⟩

theorem w_FnExactImpliesDep (w : World) (n : Int) (wfn : (Lit.int .i64 n).wf = true) {v : Value} (hv : InDeps w v) {x : Value} (hx : ∃ l r : Int, x = .agg #[.int .i64 l, .int .i64 r] ∧ (Lit.int .i64 l).wf = true ∧ (Lit.int .i64 r).wf = true) :
    Calls Try.prog 5 #[.int .i64 n, v, x] w fun e w' => e = .returned (.bool true) ∧ Below w.heap.size w w' := by
  obtain ⟨a, len, cap, rfl, hm, hD0⟩ := hv
  obtain ⟨l, r, rfl, _, _⟩ := hx
  have hb := (Below.refl w.heap.size w).alloc (Nat.le_refl _) (.cells #[.int .i64 l, .int .i64 r] 34)
  have b0 := box_at w #[.int .i64 l, .int .i64 r] 34 0 _ rfl
  have b1 := box_at w #[.int .i64 l, .int .i64 r] 34 1 _ rfl
  by_cases hbig : (1048576 : Int) < len
  · go_enter Try.func5, Try.ntmps5
    go_wp2_with (first | (go_at_call 19; refine Calls.mono (c_szDepS_no _ _ _ _ (by omega) hbig hm _) ?_; rintro e w1 ⟨rfl, hbn⟩; replace hb := bel_to (w := w) (by first | exact hb | exact hb.alloc hb.size _ | exact (hb.alloc hb.size _).alloc (Nat.le_trans hb.size (by simp)) _ | exact hb.setCell (by simp [hb.size]) _) hbn; clear hbn))
    go_ret
    exact ⟨rfl, hb⟩
  · obtain ⟨D, rfl, hD⟩ := hD0 (room_of (by omega))
    have hle : (D.length : Int) ≤ 1048576 := by omega
    have hr := hD.len
    go_enter Try.func5, Try.ntmps5
    go_wp2_with (first | (go_at_call 19; refine Calls.mono (c_szDepS_ok _ _ _ _ (by omega) hle _) ?_; rintro e w1 ⟨rfl, hbn⟩; replace b0 := cell_keep b0 hbn; replace b1 := cell_keep b1 hbn; replace hb := bel_to (w := w) (by first | exact hb | exact hb.alloc hb.size _ | exact (hb.alloc hb.size _).alloc (Nat.le_trans hb.size (by simp)) _ | exact hb.setCell (by simp [hb.size]) _) hbn; clear hbn))
    go_region_held3 (fun w' => w'.cell? ⟨w.heap.size, 0, none⟩ = some (.int .i64 l) ∧ w'.cell? ⟨w.heap.size, 1, none⟩ = some (.int .i64 r) ∧ Below w.heap.size w w')
      (first | (rename_i hS _ _; exact ⟨cell_keep hS.1 hbn, cell_keep hS.2.1 hbn, bel_to hS.2.2 hbn⟩) | exact ⟨cell_keep b0 (Below.refl _ _).drew, cell_keep b1 (Below.refl _ _).drew, hb.drew⟩)
      (first
        | (go_at_call 21; rename_i hS _ _; refine (c_toDepS _ _ _ _ (hD.keep hS.2.2)).mono ?_; rintro e w1 ⟨v1, rfl, h1, hbn⟩; obtain ⟨o1, c1, rfl, hL1⟩ := h1.reads hr; clear h1)
        | (go_at_call 25; refine Calls.mono (c_toDep _ _ _) ?_; rintro e w1 ⟨rfl, hbn⟩; replace hL1 := hL1.keep hbn)
        | (go_at_call 24; refine Calls.mono (c_specImpliesDep _ _ _ _ _ _ _ hL1) ?_; rintro e w1 ⟨rfl, hbn⟩; clear hL1))
    rename_i hS
    replace b0 := hS.1
    replace b1 := hS.2.1
    replace hb := hS.2.2
    clear hS hbn
    go_wp2_with fail
    refine (c_toDepS _ _ _ _ (hD.keep hb)).mono ?_
    rintro e w2 ⟨v2, rfl, h2, hbn⟩
    replace b0 := cell_keep b0 hbn
    replace b1 := cell_keep b1 hbn
    replace hb := bel_to hb hbn
    obtain ⟨o2, c2, rfl, hL2⟩ := h2.reads hr
    clear h2 hbn
    go_wp2_with fail
    refine Calls.mono (c_toDep _ _ _) ?_
    rintro e w3 ⟨rfl, hbn⟩
    replace hb := bel_to hb hbn
    replace hL2 := hL2.keep hbn
    clear b0 b1 hbn
    go_wp2_with fail
    refine Calls.mono (c_ImpliesDep _ _ _ _ _ _ _ hL2) ?_
    rintro e w4 ⟨rfl, hbn⟩
    replace hb := bel_to hb hbn
    replace hL2 := hL2.keep hbn
    clear hbn
    go_wp2_with fail
    refine (c_toDepS _ _ _ _ (hD.keep hb)).mono ?_
    rintro e w5 ⟨v5, rfl, h5, hbn⟩
    replace hb := bel_to hb hbn
    replace hL2 := hL2.keep hbn
    obtain ⟨o5, c5, rfl, hL5⟩ := h5.reads hr
    clear h5 hbn
    go_wp2_with fail
    refine Calls.mono (c_eqDepS _ _ _ _ _ _ _ hL2 hL5) ?_
    rintro e w6 ⟨rfl, hbn⟩
    replace hb := bel_to hb hbn
    have ht : (decide (D = D)) = true := by simp
    go_wp2
    go_ret
    exact ⟨rfl, hb⟩

theorem w_FnExactClosureOf (w : World) (n : Int) (wfn : (Lit.int .i64 n).wf = true) {v : Value} (hv : InDeps w v) (x : Int) (wfx : (Lit.int .i64 x).wf = true) :
    Calls Try.prog 6 #[.int .i64 n, v, .int .i64 x] w fun e w' => e = .returned (.bool true) ∧ Below w.heap.size w w' := by
  obtain ⟨a, len, cap, rfl, hm, hD0⟩ := hv
  have hb := Below.refl w.heap.size w
  by_cases hbig : (1048576 : Int) < len
  · go_enter Try.func6, Try.ntmps6
    go_wp2_with (first | (go_at_call 19; refine Calls.mono (c_szDepS_no _ _ _ _ (by omega) hbig hm _) ?_; rintro e w1 ⟨rfl, hbn⟩; replace hb := bel_to (w := w) (by first | exact hb | exact hb.alloc hb.size _ | exact (hb.alloc hb.size _).alloc (Nat.le_trans hb.size (by simp)) _ | exact hb.setCell (by simp [hb.size]) _) hbn; clear hbn))
    go_ret
    exact ⟨rfl, hb⟩
  · obtain ⟨D, rfl, hD⟩ := hD0 (room_of (by omega))
    have hle : (D.length : Int) ≤ 1048576 := by omega
    have hr := hD.len
    go_enter Try.func6, Try.ntmps6
    go_wp2_with (first | (go_at_call 19; refine Calls.mono (c_szDepS_ok _ _ _ _ (by omega) hle _) ?_; rintro e w1 ⟨rfl, hbn⟩; replace hb := bel_to (w := w) (by first | exact hb | exact hb.alloc hb.size _ | exact (hb.alloc hb.size _).alloc (Nat.le_trans hb.size (by simp)) _ | exact hb.setCell (by simp [hb.size]) _) hbn; clear hbn))
    refine (c_toDepS _ _ _ _ (hD.keep hb)).mono ?_
    rintro e w1 ⟨v1, rfl, h1, hb1⟩
    replace hb := bel_to hb hb1
    obtain ⟨o1, c1, rfl, hL1⟩ := h1.reads hr
    clear h1 hb1
    go_wp2_with (first | (go_at_call 27; refine Calls.mono (c_specClosureOf _ _ _ _ _ _ hL1) ?_; rintro e w1 ⟨rfl, hbn⟩; replace hb := bel_to (w := w) (by first | exact hb | exact hb.alloc hb.size _ | exact (hb.alloc hb.size _).alloc (Nat.le_trans hb.size (by simp)) _ | exact hb.setCell (by simp [hb.size]) _) hbn; clear hbn))
    refine (c_toDepS _ _ _ _ (hD.keep hb)).mono ?_
    rintro e w2 ⟨v2, rfl, h2, hb2⟩
    replace hb := bel_to hb hb2
    obtain ⟨o2, c2, rfl, hL2⟩ := h2.reads hr
    clear h2 hb2 hL1
    go_wp2_with fail
    refine Calls.mono (c_ClosureOf _ _ _ _ _ _ hL2) ?_
    rintro e w3 ⟨rfl, hb3⟩
    replace hb := bel_to hb hb3
    replace hL2 := hL2.keep hb3
    clear hb3
    go_wp2_with fail
    refine (c_toDepS _ _ _ _ (hD.keep hb)).mono ?_
    rintro e w4 ⟨v4, rfl, h4, hb4⟩
    replace hb := bel_to hb hb4
    replace hL2 := hL2.keep hb4
    obtain ⟨o4, c4, rfl, hL4⟩ := h4.reads hr
    clear h4 hb4
    go_wp2_with fail
    refine Calls.mono (c_eqDepS _ _ _ _ _ _ _ hL2 hL4) ?_
    rintro e w5 ⟨rfl, hb5⟩
    replace hb := bel_to hb hb5
    have ht : (decide (D = D)) = true := by simp
    go_wp2
    go_ret
    exact ⟨rfl, hb⟩
end Go.Proofs.Ytmdkbookcgkpaaa
