/- Contracts and lemmas for FnReduced, part 5 of 5. -/
import Derived.Test.YtjbmpnbfiahdhaaGreatQFnReduced1
import Derived.Test.YtjbmpnbfiahdhaaGreatQFnReduced2
import Derived.Test.YtjbmpnbfiahdhaaGreatQFnReduced3
import Derived.Test.YtjbmpnbfiahdhaaGreatQFnReduced4
import Derived.Deep.RegionLaw
import Derived.Deep.CutRange
import Derived.Deep.RegionHeld3
import Derived.ProofKit
import Derived.OpenShut
import Derived.Lib.SmallJoins
import Derived.Deep.SlicePairs
import Derived.Deep.Matrix
namespace Go.Proofs.YtjbmpnbfiahdhaaGreat
open Go.RowKit
set_option linter.unusedVariables false
set_option maxRecDepth 100000

set_option maxHeartbeats 1600000 in
theorem c_l10Draw (g : Nat) (w : World) (hc : Cur w g) :
    Calls Tryz.prog 154 #[.pointer (some ⟨g, 0, none⟩)] w fun e w' => ∃ n o c D, e = .returned (.tuple #[.int .i64 n, .slice o (D.length : Nat) c]) ∧ OwnD w' w.heap.size (.slice o D.length c) D ∧ D.length ≤ 5 ∧ Cur w' g ∧ w.grownBy w' (some g) := by
  obtain ⟨i0, hi, hz0, hz1, hz2⟩ := info_parts info_dep
  have hlt := hc.lt
  go_enter Tryz.func154, Tryz.ntmps154
  go_wp2_with fail
  refine (c_l1Below g 3 (by omega) _ hc).mono ?_
  rintro e w1 ⟨q, rfl, hq0, hq1, _, hc1, hG⟩
  obtain ⟨k, rfl⟩ := Int.eq_ofNat_of_zero_le hq0
  have hk : k ≤ 2 := by have := hq1 (by omega); omega
  clear hc hq0 hq1
  go_wp2_with fail
  refine (show Calls _ _ #[_, .int .i64 ((2 : Int) + (k : Int))] _ _ from (by have := c_l6Deps g (2 + k) (by omega) w1 hc1; rwa [Int.natCast_add] at this)).mono ?_
  rintro e w2 ⟨o, c, D, rfl, hI, hD, hc2, hg⟩
  replace hI := hI.based hG.size
  replace hG := grown_trans hG hg
  clear hc1 hg
  go_wp2_with fail
  refine (c_l1Below g 14 (by omega) _ hc2).mono ?_
  rintro e w3 ⟨q, rfl, _, _, _, hc3, hg⟩
  replace hI := hI.cur hg hlt
  replace hG := grown_trans hG hg
  clear hc2 hg
  by_cases e0 : q = 0
  · go_wp2_with fail
    refine (c_l6Any g _ _ hc3).mono ?_
    rintro e w4 ⟨l, r, rfl, hc4, hg⟩
    replace hI := hI.cur hg hlt
    replace hG := grown_trans hG hg
    clear hc3 hg
    go_wp2_with (first | (at_builtin; refine wpList_append_own _ rfl _ _ 30 rfl w.heap.size 46 i0 (.agg #[.int .i64 0, .int .i64 0]) 2 16 Tryz.underlying30 hi hz0 hz1 hz2 rfl (by decide) _ _ _ rfl (World.ownsRow.alloc hI _) _ 1 1 [.int .i64 l, .int .i64 r] rfl rfl (World.news_of_block (cs := #[.int .i64 l, .int .i64 r]) (t := 46) (fr := (0, 0)) (heap_alloc_new _ _)) (by intro u hu; simp at hu; rcases hu with rfl | rfl <;> rfl) (by unfold maxLen; omega) (by omega) (by have := hG.size; simp at this ⊢; omega) ?_; intro v' w3 hown hgrow _; have hc3 := Cur.grown (cur_alloc hc4 _) hgrow (fun k e => by have := (World.ownsRow.lt hI k e).1; omega); have hG3 := grown_more (grown_trans hG (grown_of_below ((Below.refl _ _).alloc (Nat.le_refl _) _) _)) hgrow (fun k e => (World.ownsRow.lt hI k e).1); replace hI := OwnD.snoc hown; clear hown hgrow hG hc4; obtain ⟨o', c', rfl⟩ := hI.shape) | fail)
    exact bodyPost_ret (v := .tuple #[.int .i64 ((2 : Int) + k), .slice o' (D ++ [(l, r)]).length c']) (by simp [results, Tryz.results154, go_sem]) rfl ⟨_, _, _, _, rfl, hI, by simp; omega, hc3, hG3⟩
  · by_cases e1 : q = 1
    · have hL := fun T => lit_ints w3 #[.int .i64 0, .int .i64 1, .int .i64 5, .int .i64 6] [0, 1, 5, 6] (by simp) (fun k hk => by match k, hk with | 0, _ => rfl | 1, _ => rfl | 2, _ => rfl | 3, _ => rfl) T
      have hlt3 := hc3.lt
      go_wp2_with fail
      refine (c_l1PickInt g _ 4 [0, 1, 5, 6] (by simp) (by simp) _ (cur_alloc hc3 _) (hL _) (fun a e => by injection e with e; subst e; simp; omega)).mono ?_
      rintro e w4 ⟨x, rfl, _, hc4, hg⟩
      replace hI := (hI.keep ((Below.refl _ _).alloc (Nat.le_refl _) _)).cur hg hlt
      replace hG := grown_trans hG (grown_alloc hg)
      clear hc3 hg hL
      go_wp2
      exact bodyPost_ret (v := .tuple #[.int .i64 x, .slice o D.length c]) (by simp [results, Tryz.results154, go_sem]) rfl ⟨_, _, _, D, rfl, hI, by omega, hc4, hG⟩
    · go_wp2
      exact bodyPost_ret (v := .tuple #[.int .i64 ((2 : Int) + k), .slice o D.length c]) (by simp [results, Tryz.results154, go_sem]) rfl ⟨_, _, _, D, rfl, hI, by omega, hc3, hG⟩
set_option maxHeartbeats 1600000 in
theorem c_l10Dep (oa) (m cap : Nat) (hm : m ≤ 1048576) (w : World) (hB : BytesAt w oa m) :
    Calls Tryz.prog 169 #[.slice oa m cap] w fun e w' => ∃ n o c D l r, e = .returned (.tuple #[.int .i64 n, .slice o (D.length : Nat) c, .agg #[.int .i64 l, .int .i64 r]]) ∧ OwnD w' w.heap.size (.slice o D.length c) D ∧ D.length ≤ 5 ∧ Below w.heap.size w w' := by
  have kZ := Blk.new w #[.int .i64 0, .int .i64 0] 46
  have hb := (Below.refl w.heap.size w).alloc (Nat.le_refl _) (.cells #[.int .i64 0, .int .i64 0] 46)
  go_enter Tryz.func169, Tryz.ntmps169
  go_wp2_with fail
  refine (c_l1New oa m cap hm _ (hB.keep hb)).mono ?_
  rintro e w1 ⟨rfl, hc1, hbn⟩
  replace kZ := kZ.keep hbn
  replace hb := bel_to hb hbn
  clear hbn
  simp only [World.size_alloc] at hc1
  go_wp2_with fail
  refine (c_l10Draw _ _ hc1).mono ?_
  rintro e w2 ⟨n, o, c, D, rfl, hI, hD, hc2, hg⟩
  have hlt1 := hc1.lt
  replace kZ := kZ.cur hg (by omega)
  replace hI := (hI.based (show w.heap.size + 2 ≤ _ by omega))
  replace hb := below_cur hb hg (Nat.le_succ _)
  clear hc1 hg
  go_wp2_with fail
  refine (c_l6Any _ _ _ hc2).mono ?_
  rintro e w3 ⟨l, r, rfl, hc3, hg⟩
  replace kZ := kZ.cur hg (by omega)
  replace hI := hI.cur hg (by omega)
  replace hb := below_cur hb hg (Nat.le_succ _)
  clear hc2 hg
  have z0 := kZ.cell 0 (.int .i64 0) rfl
  have z1 := kZ.cell 1 (.int .i64 0) rfl
  have f0 := kZ.free 0
  have f1 := kZ.free 1
  go_wp2
  exact bodyPost_ret (v := .tuple #[.int .i64 n, .slice o D.length c, .agg #[.int .i64 l, .int .i64 r]]) (by simp [results, Tryz.results169, go_sem, z0, z1]) rfl ⟨n, o, c, D, l, r, rfl, owns_base (ownsRow_setCell_below (ownsRow_setCell_below hI (a := ⟨w.heap.size, 0, none⟩) (by simp) _) (a := ⟨w.heap.size, 1, none⟩) (by simp) _) (by omega), hD, Below.setCell (p := ⟨w.heap.size, 1, none⟩) (Below.setCell (p := ⟨w.heap.size, 0, none⟩) hb (Nat.le_refl _) _) (Nat.le_refl _) _⟩
end Go.Proofs.YtjbmpnbfiahdhaaGreat
namespace Go.Proofs.YtjbmpnbfiahdhaaGreat
open Go.RowKit
set_option linter.unusedVariables false
set_option maxRecDepth 100000

theorem OwnD.setBelow {w : World} {B k j : Nat} {v u : Value} {D : List (Int × Int)} (h : OwnD w B v D) (hk : k < B) : OwnD (w.setCell ⟨k, j, none⟩ u) B v D := ownsRow_setCell_below h (a := ⟨k, j, none⟩) hk u
/-- What the three draws of a dependency answer. -/
def Draws3 (f : FuncId) (oa : Option Addr) (m cap : Nat) (w : World) : Prop :=
  Calls Tryz.prog f #[.slice oa m cap] w fun e w' => ∃ n o c D l r, e = .returned (.tuple #[.int .i64 n, .slice o (D.length : Nat) c, .agg #[.int .i64 l, .int .i64 r]]) ∧ OwnD w' w.heap.size (.slice o D.length c) D ∧ D.length ≤ 5 ∧ Below w.heap.size w w'
set_option maxHeartbeats 1600000 in
theorem c_DrawClosureOf (oa) (m cap : Nat) (hm : m ≤ 1048576) (w : World) (hB : BytesAt w oa m) :
    Calls Tryz.prog 165 #[.slice oa m cap] w fun e w' => ∃ n o c D x, e = .returned (.tuple #[.int .i64 n, .slice o (D.length : Nat) c, .int .i64 x]) ∧ OwnD w' w.heap.size (.slice o D.length c) D ∧ D.length ≤ 5 ∧ Below w.heap.size w w' := by
  go_enter Tryz.func165, Tryz.ntmps165
  go_wp2_with fail
  refine (c_l1New oa m cap hm _ hB).mono ?_
  rintro e w1 ⟨rfl, hc1, hb⟩
  have hlt1 := hc1.lt
  go_wp2_with fail
  refine (c_l10Draw _ _ hc1).mono ?_
  rintro e w2 ⟨n, o, c, D, rfl, hI, hD, hc2, hg⟩
  replace hb := below_cur hb hg (Nat.le_refl _)
  replace hI := hI.based (show w.heap.size + 1 ≤ _ by omega)
  clear hc1 hg
  go_wp2_with fail
  refine (c_l1Once _ 8 (by omega) _ hc2).mono ?_
  rintro e w3 ⟨t, rfl, hc3, hg⟩
  replace hb := below_cur hb hg (Nat.le_refl _)
  replace hI := hI.cur hg (by omega)
  clear hc2 hg
  cases t
  · go_wp2_with fail
    refine (c_l1Below _ 4 (by omega) _ hc3).mono ?_
    rintro e w4 ⟨x, rfl, _, _, _, hc4, hg⟩
    replace hb := below_cur hb hg (Nat.le_refl _)
    replace hI := hI.cur hg (by omega)
    clear hc3 hg
    go_wp2
    exact bodyPost_ret (v := .tuple #[.int .i64 n, .slice o D.length c, .int .i64 x]) (by simp [results, Tryz.results165, go_sem]) rfl ⟨n, o, c, D, x, rfl, hI.based (Nat.le_succ _), hD, hb⟩
  · go_wp2_with fail
    refine (c_l2Any _ _ hc3).mono ?_
    rintro e w4 ⟨x, rfl, _, _, hc4, hg⟩
    replace hb := below_cur hb hg (Nat.le_refl _)
    replace hI := hI.cur hg (by omega)
    clear hc3 hg
    go_wp2
    exact bodyPost_ret (v := .tuple #[.int .i64 n, .slice o D.length c, .int .i64 x]) (by simp [results, Tryz.results165, go_sem]) rfl ⟨n, o, c, D, x, rfl, hI.based (Nat.le_succ _), hD, hb⟩
end Go.Proofs.YtjbmpnbfiahdhaaGreat
namespace Go.Proofs.YtjbmpnbfiahdhaaGreat
open Go.RowKit
set_option linter.unusedVariables false
set_option maxRecDepth 100000

theorem coverOf_le (n : Int) (D : List (Int × Int)) : (coverOfF n D).length ≤ D.length := by
  unfold coverOfF
  split
  · exact Nat.le_trans (pruneF_len _ _ _ _) (dstF_len n D D.length (Nat.le_refl _))
  · simp
set_option maxHeartbeats 1600000 in
theorem c_DrawReduceLeft (oa) (m cap : Nat) (hm : m ≤ 1048576) (w : World) (hB : BytesAt w oa m) : Draws3 74 oa m cap w := by
  unfold Draws3
  have kZ := Blk.new w #[.int .i64 0, .int .i64 0] 46
  have hb := (Below.refl w.heap.size w).alloc (Nat.le_refl _) (.cells #[.int .i64 0, .int .i64 0] 46)
  go_enter Tryz.func74, Tryz.ntmps74
  go_wp2_with fail
  refine (c_l10Dep oa m cap hm _ (hB.keep hb)).mono ?_
  rintro e w1 ⟨n, o, c, D, l, r, rfl, hI, hD, hbn⟩
  simp only [World.size_alloc] at hI
  replace kZ := kZ.keep hbn
  replace hb := bel_to hb hbn
  clear hbn
  have hlt := kZ.lt
  have y0 := kZ.cell 0 (.int .i64 0) rfl
  have y1 := kZ.cell 1 (.int .i64 0) rfl
  have g0 := kZ.free 0
  have g1 := kZ.free 1
  have kD := Blk.new w1 #[.int .i64 l, .int .i64 r] 46
  have d0 := kD.cell 0 (.int .i64 l) rfl
  have d1 := kD.cell 1 (.int .i64 r) rfl
  have d0' := kD.drew.cell 0 (.int .i64 l) rfl
  have d1' := kD.drew.cell 1 (.int .i64 r) rfl
  have z0 := (kZ.alloc (.cells #[.int .i64 l, .int .i64 r] 46)).drew.cell 0 (.int .i64 0) rfl
  have z1 := (kZ.alloc (.cells #[.int .i64 l, .int .i64 r] 46)).drew.cell 1 (.int .i64 0) rfl
  have f0 := (kZ.alloc (.cells #[.int .i64 l, .int .i64 r] 46)).drew.free 0
  have f1 := (kZ.alloc (.cells #[.int .i64 l, .int .i64 r] 46)).drew.free 1
  clear kD
  go_wp2_with fail
  go_region
  all_goals
    go_wp2
    have hb2 := (Below.setCell (p := ⟨w.heap.size, 1, none⟩) (Below.setCell (p := ⟨w.heap.size, 0, none⟩) hb (Nat.le_refl _) (.int .i64 l)) (Nat.le_refl _) (.int .i64 r))
    have k2 : Blk _ w.heap.size #[.int .i64 l, .int .i64 r] 46 := (((kZ.set 0 (.int .i64 l)).set 1 (.int .i64 r)).alloc (.cells #[.int .i64 l, .int .i64 r] 46)).drew
    have r0 := k2.cell 0 (.int .i64 l) rfl
    have r1 := k2.cell 1 (.int .i64 r) rfl
    exact bodyPost_ret (v := .tuple #[.int .i64 n, .slice o D.length c, .agg #[.int .i64 l, .int .i64 r]]) (by simp only [results, Tryz.results74]; simp [go_sem, r0, r1]) rfl ⟨n, o, c, D, l, r, rfl, (((hI.setBelow (Nat.lt_succ_self _)).setBelow (Nat.lt_succ_self _)).keep ((Below.refl _ _).alloc (Nat.le_refl _) _).drew).based (Nat.le_succ _), hD, (hb2.alloc hb2.size _).drew⟩
set_option maxHeartbeats 1600000 in
theorem c_DrawCoverOf (oa) (m cap : Nat) (hm : m ≤ 1048576) (w : World) (hB : BytesAt w oa m) :
    Calls Tryz.prog 60 #[.slice oa m cap] w fun e w' => ∃ n o c D, e = .returned (.tuple #[.int .i64 n, .slice o (D.length : Nat) c]) ∧ OwnD w' w.heap.size (.slice o D.length c) D ∧ D.length ≤ 5 ∧ Below w.heap.size w w' := by
  go_enter Tryz.func60, Tryz.ntmps60
  go_wp2_with fail
  refine (c_l1New oa m cap hm _ hB).mono ?_
  rintro e w1 ⟨rfl, hc1, hb⟩
  have hlt1 := hc1.lt
  go_wp2_with fail
  refine (c_l10Draw _ _ hc1).mono ?_
  rintro e w2 ⟨n, o, c, D, rfl, hI, hD, hc2, hg⟩
  replace hb := below_cur hb hg (Nat.le_refl _)
  replace hI := hI.based (show w.heap.size + 1 ≤ _ by omega)
  clear hc1 hg
  go_wp2
  exact bodyPost_ret (v := .tuple #[.int .i64 n, .slice o D.length c]) (by simp [results, Tryz.results60, go_sem]) rfl ⟨n, o, c, D, rfl, hI.based (Nat.le_succ _), hD, hb⟩
set_option maxHeartbeats 1600000 in
theorem c_DrawProjectDeps (oa) (m cap : Nat) (hm : m ≤ 1048576) (w : World) (hB : BytesAt w oa m) :
    Calls Tryz.prog 71 #[.slice oa m cap] w fun e w' => ∃ n o c D x, e = .returned (.tuple #[.int .i64 n, .slice o (D.length : Nat) c, .int .i64 x]) ∧ OwnD w' w.heap.size (.slice o D.length c) D ∧ D.length ≤ 5 ∧ Below w.heap.size w w' := by
  go_enter Tryz.func71, Tryz.ntmps71
  go_wp2_with fail
  refine (c_DrawClosureOf oa m cap hm _ hB).mono ?_
  rintro e w1 ⟨n, o, c, D, x, rfl, hI, hD, hb⟩
  go_wp2
  exact bodyPost_ret (v := .tuple #[.int .i64 n, .slice o D.length c, .int .i64 x]) (by simp [results, Tryz.results71, go_sem]) rfl ⟨n, o, c, D, x, rfl, hI, hD, hb⟩
set_option maxHeartbeats 1600000 in
theorem c_DrawIsCover (oa) (m cap : Nat) (hm : m ≤ 1048576) (w : World) (hB : BytesAt w oa m) :
    Calls Tryz.prog 75 #[.slice oa m cap] w fun e w' => ∃ n o c D, e = .returned (.tuple #[.int .i64 n, .slice o (D.length : Nat) c]) ∧ OwnD w' w.heap.size (.slice o D.length c) D ∧ D.length ≤ 5 ∧ Below w.heap.size w w' := by
  go_enter Tryz.func75, Tryz.ntmps75
  go_wp2_with fail
  refine (c_l1New oa m cap hm _ hB).mono ?_
  rintro e w1 ⟨rfl, hc1, hb⟩
  have hlt1 := hc1.lt
  go_wp2_with fail
  refine (c_l10Draw _ _ hc1).mono ?_
  rintro e w2 ⟨n, o, c, D, rfl, hI, hD, hc2, hg⟩
  replace hb := below_cur hb hg (Nat.le_refl _)
  replace hI := hI.based (show w.heap.size + 1 ≤ _ by omega)
  clear hc1 hg
  go_wp2_with fail
  refine (c_l1Once _ 2 (by omega) _ hc2).mono ?_
  rintro e w3 ⟨t, rfl, hc3, hg⟩
  replace hb := below_cur hb hg (Nat.le_refl _)
  replace hI := hI.cur hg (by omega)
  clear hc2 hg
  cases t
  · go_wp2
    exact bodyPost_ret (v := .tuple #[.int .i64 n, .slice o D.length c]) (by simp [results, Tryz.results75, go_sem]) rfl ⟨n, o, c, D, rfl, hI.based (Nat.le_succ _), hD, hb⟩
  · go_wp2_with fail
    refine (c_specCoverOf n o c D _ (hI.deps rfl (by unfold Room; omega))).mono ?_
    rintro e w4 ⟨v, rfl, hO, hbn⟩
    obtain ⟨o', c', rfl⟩ := hO.shape
    have hz := hb.size
    replace hb := bel_to hb hbn
    have hl := coverOf_le n D
    go_wp2
    exact bodyPost_ret (v := .tuple #[.int .i64 n, .slice o' (coverOfF n D).length c']) (by simp [results, Tryz.results75, go_sem]) rfl ⟨n, o', c', coverOfF n D, rfl, hO.based (by omega), by omega, hb⟩
set_option maxHeartbeats 1600000 in
theorem c_DrawSameMeaning (oa) (m cap : Nat) (hm : m ≤ 1048576) (w : World) (hB : BytesAt w oa m) :
    Calls Tryz.prog 76 #[.slice oa m cap] w fun e w' => ∃ n o c D o2 c2 D2, e = .returned (.tuple #[.int .i64 n, .slice o (D.length : Nat) c, .slice o2 (D2.length : Nat) c2]) ∧ OwnD w' w.heap.size (.slice o D.length c) D ∧ OwnD w' w.heap.size (.slice o2 D2.length c2) D2 ∧ D.length ≤ 5 ∧ D2.length ≤ 5 ∧ Below w.heap.size w w' := by
  go_enter Tryz.func76, Tryz.ntmps76
  go_wp2_with fail
  refine (c_l1New oa m cap hm _ hB).mono ?_
  rintro e w1 ⟨rfl, hc1, hb⟩
  have hlt1 := hc1.lt
  go_wp2_with fail
  refine (c_l10Draw _ _ hc1).mono ?_
  rintro e w2 ⟨n, o, c, D, rfl, hI, hD, hc2, hg⟩
  replace hb := below_cur hb hg (Nat.le_refl _)
  replace hI := hI.based (show w.heap.size + 1 ≤ _ by omega)
  clear hc1 hg
  go_wp2_with fail
  refine (c_l1Once _ 2 (by omega) _ hc2).mono ?_
  rintro e w3 ⟨t, rfl, hc3, hg⟩
  replace hb := below_cur hb hg (Nat.le_refl _)
  replace hI := hI.cur hg (by omega)
  clear hc2 hg
  cases t
  · skip
    go_wp2_with fail
    refine (c_l10Draw _ _ hc3).mono ?_
    rintro e w4 ⟨n2, o2, c2, D2, rfl, hI2, hD2, hc4, hg⟩
    have hz := hb.size
    replace hb := below_cur hb hg (Nat.le_refl _)
    replace hI := hI.cur hg (by omega)
    clear hc3 hg
    go_wp2
    exact bodyPost_ret (v := .tuple #[.int .i64 n, .slice o D.length c, .slice o2 D2.length c2]) (by simp [results, Tryz.results76, go_sem]) rfl ⟨n, o, c, D, o2, c2, D2, rfl, hI.based (Nat.le_succ _), hI2.based (by omega), hD, hD2, hb⟩
  · go_wp2_with fail
    cases ha : areDepsF n D
    · refine Calls.mono (Ans.eqb (c_specAreDeps n o c D _ (hI.deps rfl (by unfold Room; omega))) ha) ?_
      rintro e w4 ⟨rfl, hbn⟩
      have hz := hb.size
      replace hc3 := hc3.keep hbn
      replace hb := bel_to hb hbn
      replace hI := hI.keep hbn
      clear hbn hz
      go_wp2_with fail
      refine (c_l10Draw _ _ hc3).mono ?_
      rintro e w5 ⟨n2, o2, c2, D2, rfl, hI2, hD2, hc4, hg⟩
      have hz := hb.size
      replace hb := below_cur hb hg (Nat.le_refl _)
      replace hI := hI.cur hg (by omega)
      clear hc3 hg
      go_wp2
      exact bodyPost_ret (v := .tuple #[.int .i64 n, .slice o D.length c, .slice o2 D2.length c2]) (by simp [results, Tryz.results76, go_sem]) rfl ⟨n, o, c, D, o2, c2, D2, rfl, hI.based (Nat.le_succ _), hI2.based (by omega), hD, hD2, hb⟩
    · refine Calls.mono (Ans.eqb (c_specAreDeps n o c D _ (hI.deps rfl (by unfold Room; omega))) ha) ?_
      rintro e w4 ⟨rfl, hbn⟩
      replace hb := bel_to hb hbn
      replace hI := hI.keep hbn
      clear hbn hc3
      go_wp2_with fail
      refine (c_specCoverOf n o c D _ (hI.deps rfl (by unfold Room; omega))).mono ?_
      rintro e w5 ⟨v, rfl, hO, hbn⟩
      obtain ⟨o', c', rfl⟩ := hO.shape
      have hz := hb.size
      replace hb := bel_to hb hbn
      replace hI := hI.keep hbn
      have hl := coverOf_le n D
      go_wp2
      exact bodyPost_ret (v := .tuple #[.int .i64 n, .slice o D.length c, .slice o' (coverOfF n D).length c']) (by simp [results, Tryz.results76, go_sem]) rfl ⟨n, o, c, D, o', c', coverOfF n D, rfl, hI.based (Nat.le_succ _), hO.based (by omega), hD, by omega, hb⟩
end Go.Proofs.YtjbmpnbfiahdhaaGreat
namespace Go.Proofs.YtjbmpnbfiahdhaaGreat
open Go.RowKit
set_option linter.unusedVariables false
set_option maxRecDepth 100000

theorem c_big (oa) (m cap : Nat) (w : World) : Ans Tryz.prog 15 #[.slice oa m cap] w (.bool (decide ((1048576 : Int) < m))) := by
  unfold Ans
  go_enter Tryz.func15, Tryz.ntmps15
  go_wp2
  go_ret
  exact ⟨ret_bool (by simp), Below.refl _ _⟩
theorem c_lawSameInts (oa ob) (ca cb : Nat) (L : List Int) (w : World) (hA : IntsAt w oa L) (hB : IntsAt w ob L) :
    Ans Tryz.prog 36 #[.slice oa L.length ca, .slice ob L.length cb] w (.bool true) := by
  unfold Ans
  have hn : L.length ≤ 1073741824 := hA.len
  have hne : ((L.length : Int) != L.length) = false := by simp
  go_enter Tryz.func36, Tryz.ntmps36
  go_wp2
  go_loopw [5] (fun i wr => ∃ k : Nat, i = .int .i64 k ∧ k ≤ L.length ∧ Below w.heap.size w wr) (fun i _ => L.length - (intOf i).toNat)
  case atStart => exact ⟨0, rfl, Nat.zero_le _, Below.refl _ _⟩
  case round =>
    obtain ⟨k, rfl, hk, hb⟩ := hrel
    by_cases hlt : k < L.length
    · obtain ⟨b, off, rfl, hbs, hc⟩ := hA.at_ (by omega)
      obtain ⟨b', off', rfl, hbs', hc'⟩ := hB.at_ (by omega)
      have h1 := cell_keep (hc k hlt) hb
      have h2 := cell_keep (hc' k hlt) hb
      have hx : (nth L k != nth L k) = false := by simp
      clear hc hc'
      go_wp2_with fail
      (refine wp_region_after (by kernel_rfl) (by kernel_rfl) ?_; have q_h1 := fun (x : After _) => cell_keep h1 x.bel; have q_h2 := fun (x : After _) => cell_keep h2 x.bel; (repeat (go_big_quiet_step (fail))); clear q_h1; clear q_h2; refine wpQuiet_nil ?_; rintro _ ⟨⟨w1, hbn⟩, rfl⟩; (try simp only [After.w]); replace h1 := cell_keep h1 hbn; replace h2 := cell_keep h2 hbn; replace hb := bel_to (w := w) (by first | exact hb | exact hb.alloc hb.size _ | exact (hb.alloc hb.size _).alloc (Nat.le_trans hb.size (by simp)) _ | exact hb.setCell (by simp [hb.size]) _) hbn; clear hbn)
      go_wp2
      go_roundw
      case rel => exact ⟨k + 1, by go_num, by omega, hb⟩
      case measure => simp [intOf]; omega
    · have hkk : k = L.length := by omega
      have HK : Hid (k = L.length) := hkk
      clear hkk
      go_wp2
      go_ret
      exact ⟨rfl, hb⟩
end Go.Proofs.YtjbmpnbfiahdhaaGreat
namespace Go.Proofs.YtjbmpnbfiahdhaaGreat
open Go.RowKit
set_option linter.unusedVariables false
set_option maxRecDepth 100000

theorem rows_ext' {A B : List (List Int)} (hl : A.length = B.length) (h : ∀ k, k < A.length → row A k = row B k) : A = B := by
  apply List.ext_getElem hl
  intro j h1 h2
  have := h j h1
  simp [row, List.getD, h1, h2] at this
  exact this

set_option maxHeartbeats 800000 in
theorem c_SameDeps (oa ob) (ca cb : Nat) (L M : List (Int × Int)) (w : World) (hL : DepsAt w oa L) (hM : DepsAt w ob M) :
    Ans Tryz.prog 102 #[.slice oa L.length ca, .slice ob M.length cb] w (.bool (decide (L = M))) := by
  unfold Ans
  have hn : L.length ≤ 1073741824 := hL.len
  by_cases hlen : L.length = M.length
  · have hb0 : ((L.length : Int) != (M.length : Int)) = false := by simp [hlen]
    have HL : Hid (L.length = M.length) := hlen
    have hlm : L.length ≤ M.length := by omega
    clear hlen
    go_enter Tryz.func102, Tryz.ntmps102
    go_wp2
    go_loopw [13] (fun i wr => ∃ k : Nat, i = .int .i64 k ∧ k ≤ L.length ∧ (∀ j, j < k → nl L j = nl M j ∧ nr L j = nr M j) ∧ Below w.heap.size w wr) (fun i _ => L.length - (intOf i).toNat)
    case atStart => exact ⟨0, rfl, Nat.zero_le _, fun j hj => absurd hj (by omega), Below.refl _ _⟩
    case round =>
      obtain ⟨k, rfl, hk, hall, hb⟩ := hrel
      have HA : Hid (∀ j, j < k → nl L j = nl M j ∧ nr L j = nr M j) := hall
      clear hall
      by_cases hlt : k < L.length
      · obtain ⟨b, off, rfl, hbs, hc⟩ := hL.at_ (by omega)
        obtain ⟨b', off', rfl, hbs', hc'⟩ := hM.at_ (by omega)
        have hc1 := cell_keep (hc k hlt).1 hb
        have hc2 := cell_keep (hc k hlt).2 hb
        have hc3 := cell_keep (hc' k (by omega)).1 hb
        have hc4 := cell_keep (hc' k (by omega)).2 hb
        have HN : Hid (L = M → nl L k = nl M k ∧ nr L k = nr M k) := fun e => by subst e; exact ⟨rfl, rfl⟩
        clear hc hc'
        generalize gh1 : nl L k = a at *
        generalize gh2 : nr L k = b at *
        generalize gh3 : nl M k = c at *
        generalize gh4 : nr M k = d at *
        have HG : Hid (nl L k = a ∧ nr L k = b ∧ nl M k = c ∧ nr M k = d) := ⟨gh1, gh2, gh3, gh4⟩
        clear gh1 gh2 gh3 gh4
        cases e1 : (a == c)
        · go_wp2_with fail
          (refine wp_region_after (by kernel_rfl) (by kernel_rfl) ?_; have q_hc1 := fun (x : After _) => cell_keep hc1 x.bel; have q_hc2 := fun (x : After _) => cell_keep hc2 x.bel; have q_hc3 := fun (x : After _) => cell_keep hc3 x.bel; have q_hc4 := fun (x : After _) => cell_keep hc4 x.bel; (repeat (go_big_quiet_step (fail))); clear q_hc1; clear q_hc2; clear q_hc3; clear q_hc4; refine wpQuiet_nil ?_; rintro _ ⟨⟨w1, hbn⟩, rfl⟩; (try simp only [After.w]); replace hc1 := cell_keep hc1 hbn; replace hc2 := cell_keep hc2 hbn; replace hc3 := cell_keep hc3 hbn; replace hc4 := cell_keep hc4 hbn; replace hb := bel_to (w := w) (by first | exact hb | exact hb.alloc hb.size _ | exact (hb.alloc hb.size _).alloc (Nat.le_trans hb.size (by simp)) _ | exact hb.setCell (by simp [hb.size]) _) hbn; clear hbn)
          go_wp2
          go_ret
          exact ⟨ret_bool (by symm; rw [decide_eq_false_iff_not]; intro e; have := (HN.out e).1; simp at e1; exact e1 this), hb⟩
        · cases e2 : (b == d)
          · go_wp2_with fail
            (refine wp_region_after (by kernel_rfl) (by kernel_rfl) ?_; have q_hc1 := fun (x : After _) => cell_keep hc1 x.bel; have q_hc2 := fun (x : After _) => cell_keep hc2 x.bel; have q_hc3 := fun (x : After _) => cell_keep hc3 x.bel; have q_hc4 := fun (x : After _) => cell_keep hc4 x.bel; (repeat (go_big_quiet_step (fail))); clear q_hc1; clear q_hc2; clear q_hc3; clear q_hc4; refine wpQuiet_nil ?_; rintro _ ⟨⟨w1, hbn⟩, rfl⟩; (try simp only [After.w]); replace hc1 := cell_keep hc1 hbn; replace hc2 := cell_keep hc2 hbn; replace hc3 := cell_keep hc3 hbn; replace hc4 := cell_keep hc4 hbn; replace hb := bel_to (w := w) (by first | exact hb | exact hb.alloc hb.size _ | exact (hb.alloc hb.size _).alloc (Nat.le_trans hb.size (by simp)) _ | exact hb.setCell (by simp [hb.size]) _) hbn; clear hbn)
            go_wp2
            go_ret
            exact ⟨ret_bool (by symm; rw [decide_eq_false_iff_not]; intro e; have := (HN.out e).2; simp at e2; exact e2 this), hb⟩
          · have HE : Hid (a = c ∧ b = d) := by show a = c ∧ b = d; simp at e1 e2; exact ⟨e1, e2⟩
            go_wp2_with fail
            (refine wp_region_after (by kernel_rfl) (by kernel_rfl) ?_; have q_hc1 := fun (x : After _) => cell_keep hc1 x.bel; have q_hc2 := fun (x : After _) => cell_keep hc2 x.bel; have q_hc3 := fun (x : After _) => cell_keep hc3 x.bel; have q_hc4 := fun (x : After _) => cell_keep hc4 x.bel; (repeat (go_big_quiet_step (fail))); clear q_hc1; clear q_hc2; clear q_hc3; clear q_hc4; refine wpQuiet_nil ?_; rintro _ ⟨⟨w1, hbn⟩, rfl⟩; (try simp only [After.w]); replace hc1 := cell_keep hc1 hbn; replace hc2 := cell_keep hc2 hbn; replace hc3 := cell_keep hc3 hbn; replace hc4 := cell_keep hc4 hbn; replace hb := bel_to (w := w) (by first | exact hb | exact hb.alloc hb.size _ | exact (hb.alloc hb.size _).alloc (Nat.le_trans hb.size (by simp)) _ | exact hb.setCell (by simp [hb.size]) _) hbn; clear hbn)
            go_wp2
            go_roundw
            case rel => exact ⟨k + 1, by go_num, by omega, lt_step (p := fun j => nl L j = nl M j ∧ nr L j = nr M j) HA.out (by obtain ⟨g1, g2, g3, g4⟩ := HG.out; rw [g1, g2, g3, g4]; exact HE.out), hb⟩
            case measure => simp [intOf]; omega
      · have hkk : k = L.length := by omega
        have HE : Hid (L = M) := dlist_ext HL.out fun j hj => HA.out j (by omega)
        clear hkk
        go_wp2
        go_ret
        exact ⟨ret_bool (by symm; rw [decide_eq_true_iff]; exact HE.out), hb⟩
  · have hb0 : ((L.length : Int) != (M.length : Int)) = true := by simp; omega
    go_enter Tryz.func102, Tryz.ntmps102
    go_wp2
    go_ret
    exact ⟨ret_bool (by symm; rw [decide_eq_false_iff_not]; intro e; exact hlen (by rw [e])), Below.refl _ _⟩

set_option maxHeartbeats 800000 in
theorem c_specSameDeps (oa ob) (ca cb : Nat) (L M : List (Int × Int)) (w : World) (hL : DepsAt w oa L) (hM : DepsAt w ob M) :
    Ans Tryz.prog 38 #[.slice oa L.length ca, .slice ob M.length cb] w (.bool (decide (L = M))) := by
  unfold Ans
  have hn : L.length ≤ 1073741824 := hL.len
  by_cases hlen : L.length = M.length
  · have hb0 : ((L.length : Int) != (M.length : Int)) = false := by simp [hlen]
    have HL : Hid (L.length = M.length) := hlen
    have hlm : L.length ≤ M.length := by omega
    clear hlen
    go_enter Tryz.func38, Tryz.ntmps38
    go_wp2
    go_loopw [5] (fun i wr => ∃ k : Nat, i = .int .i64 k ∧ k ≤ L.length ∧ (∀ j, j < k → nl L j = nl M j ∧ nr L j = nr M j) ∧ Below w.heap.size w wr) (fun i _ => L.length - (intOf i).toNat)
    case atStart => exact ⟨0, rfl, Nat.zero_le _, fun j hj => absurd hj (by omega), Below.refl _ _⟩
    case round =>
      obtain ⟨k, rfl, hk, hall, hb⟩ := hrel
      have HA : Hid (∀ j, j < k → nl L j = nl M j ∧ nr L j = nr M j) := hall
      clear hall
      by_cases hlt : k < L.length
      · obtain ⟨b, off, rfl, hbs, hc⟩ := hL.at_ (by omega)
        obtain ⟨b', off', rfl, hbs', hc'⟩ := hM.at_ (by omega)
        have hc1 := cell_keep (hc k hlt).1 hb
        have hc2 := cell_keep (hc k hlt).2 hb
        have hc3 := cell_keep (hc' k (by omega)).1 hb
        have hc4 := cell_keep (hc' k (by omega)).2 hb
        have HN : Hid (L = M → nl L k = nl M k ∧ nr L k = nr M k) := fun e => by subst e; exact ⟨rfl, rfl⟩
        clear hc hc'
        generalize gh1 : nl L k = a at *
        generalize gh2 : nr L k = b at *
        generalize gh3 : nl M k = c at *
        generalize gh4 : nr M k = d at *
        have HG : Hid (nl L k = a ∧ nr L k = b ∧ nl M k = c ∧ nr M k = d) := ⟨gh1, gh2, gh3, gh4⟩
        clear gh1 gh2 gh3 gh4
        cases e1 : (a == c)
        · go_wp2_with fail
          (refine wp_region_after (by kernel_rfl) (by kernel_rfl) ?_; have q_hc1 := fun (x : After _) => cell_keep hc1 x.bel; have q_hc2 := fun (x : After _) => cell_keep hc2 x.bel; have q_hc3 := fun (x : After _) => cell_keep hc3 x.bel; have q_hc4 := fun (x : After _) => cell_keep hc4 x.bel; (repeat (go_big_quiet_step (fail))); clear q_hc1; clear q_hc2; clear q_hc3; clear q_hc4; refine wpQuiet_nil ?_; rintro _ ⟨⟨w1, hbn⟩, rfl⟩; (try simp only [After.w]); replace hc1 := cell_keep hc1 hbn; replace hc2 := cell_keep hc2 hbn; replace hc3 := cell_keep hc3 hbn; replace hc4 := cell_keep hc4 hbn; replace hb := bel_to (w := w) (by first | exact hb | exact hb.alloc hb.size _ | exact (hb.alloc hb.size _).alloc (Nat.le_trans hb.size (by simp)) _ | exact hb.setCell (by simp [hb.size]) _) hbn; clear hbn)
          go_wp2
          go_ret
          exact ⟨ret_bool (by symm; rw [decide_eq_false_iff_not]; intro e; have := (HN.out e).1; simp at e1; exact e1 this), hb⟩
        · cases e2 : (b == d)
          · go_wp2_with fail
            (refine wp_region_after (by kernel_rfl) (by kernel_rfl) ?_; have q_hc1 := fun (x : After _) => cell_keep hc1 x.bel; have q_hc2 := fun (x : After _) => cell_keep hc2 x.bel; have q_hc3 := fun (x : After _) => cell_keep hc3 x.bel; have q_hc4 := fun (x : After _) => cell_keep hc4 x.bel; (repeat (go_big_quiet_step (fail))); clear q_hc1; clear q_hc2; clear q_hc3; clear q_hc4; refine wpQuiet_nil ?_; rintro _ ⟨⟨w1, hbn⟩, rfl⟩; (try simp only [After.w]); replace hc1 := cell_keep hc1 hbn; replace hc2 := cell_keep hc2 hbn; replace hc3 := cell_keep hc3 hbn; replace hc4 := cell_keep hc4 hbn; replace hb := bel_to (w := w) (by first | exact hb | exact hb.alloc hb.size _ | exact (hb.alloc hb.size _).alloc (Nat.le_trans hb.size (by simp)) _ | exact hb.setCell (by simp [hb.size]) _) hbn; clear hbn)
            go_wp2
            go_ret
            exact ⟨ret_bool (by symm; rw [decide_eq_false_iff_not]; intro e; have := (HN.out e).2; simp at e2; exact e2 this), hb⟩
          · have HE : Hid (a = c ∧ b = d) := by show a = c ∧ b = d; simp at e1 e2; exact ⟨e1, e2⟩
            go_wp2_with fail
            (refine wp_region_after (by kernel_rfl) (by kernel_rfl) ?_; have q_hc1 := fun (x : After _) => cell_keep hc1 x.bel; have q_hc2 := fun (x : After _) => cell_keep hc2 x.bel; have q_hc3 := fun (x : After _) => cell_keep hc3 x.bel; have q_hc4 := fun (x : After _) => cell_keep hc4 x.bel; (repeat (go_big_quiet_step (fail))); clear q_hc1; clear q_hc2; clear q_hc3; clear q_hc4; refine wpQuiet_nil ?_; rintro _ ⟨⟨w1, hbn⟩, rfl⟩; (try simp only [After.w]); replace hc1 := cell_keep hc1 hbn; replace hc2 := cell_keep hc2 hbn; replace hc3 := cell_keep hc3 hbn; replace hc4 := cell_keep hc4 hbn; replace hb := bel_to (w := w) (by first | exact hb | exact hb.alloc hb.size _ | exact (hb.alloc hb.size _).alloc (Nat.le_trans hb.size (by simp)) _ | exact hb.setCell (by simp [hb.size]) _) hbn; clear hbn)
            go_wp2
            go_roundw
            case rel => exact ⟨k + 1, by go_num, by omega, lt_step (p := fun j => nl L j = nl M j ∧ nr L j = nr M j) HA.out (by obtain ⟨g1, g2, g3, g4⟩ := HG.out; rw [g1, g2, g3, g4]; exact HE.out), hb⟩
            case measure => simp [intOf]; omega
      · have hkk : k = L.length := by omega
        have HE : Hid (L = M) := dlist_ext HL.out fun j hj => HA.out j (by omega)
        clear hkk
        go_wp2
        go_ret
        exact ⟨ret_bool (by symm; rw [decide_eq_true_iff]; exact HE.out), hb⟩
  · have hb0 : ((L.length : Int) != (M.length : Int)) = true := by simp; omega
    go_enter Tryz.func38, Tryz.ntmps38
    go_wp2
    go_ret
    exact ⟨ret_bool (by symm; rw [decide_eq_false_iff_not]; intro e; exact hlen (by rw [e])), Below.refl _ _⟩

def eqTabF (n k : Int) (A B : List (List Int)) : Bool := (n == k) && decide (A = B)
set_option maxHeartbeats 800000 in
theorem c_specEqualTables (n k : Int) (oa ob) (ca cb : Nat) (A B : List (List Int)) (w : World) (hA : RowsAt w oa A) (hB : RowsAt w ob B) :
    Ans Tryz.prog 100 #[.agg #[.int .i64 n, .slice oa A.length ca], .agg #[.int .i64 k, .slice ob B.length cb]] w (.bool (eqTabF n k A B)) := by
  unfold Ans
  have hn : A.length ≤ 1073741824 := hA.len
  have hb := bel2 w (.cells #[.int .i64 n, .slice oa A.length ca] 29) (.cells #[.int .i64 k, .slice ob B.length cb] 29)
  have a0 := two_a w #[.int .i64 n, .slice oa A.length ca] 29 #[.int .i64 k, .slice ob B.length cb] 29 0 _ rfl
  have a1 := two_a w #[.int .i64 n, .slice oa A.length ca] 29 #[.int .i64 k, .slice ob B.length cb] 29 1 _ rfl
  have b0 := two_b w #[.int .i64 n, .slice oa A.length ca] 29 #[.int .i64 k, .slice ob B.length cb] 29 0 _ rfl
  have b1 := two_b w #[.int .i64 n, .slice oa A.length ca] 29 #[.int .i64 k, .slice ob B.length cb] 29 1 _ rfl
  cases h : (n == k)
  · have h' : (n != k) = true := by simp at h ⊢; exact h
    have HM : Hid (eqTabF n k A B = false) := by show eqTabF n k A B = false; unfold eqTabF; rw [h]; rfl
    go_enter Tryz.func100, Tryz.ntmps100
    go_wp2
    go_ret
    exact ⟨ret_bool HM.out.symm, hb⟩
  have h' : (n != k) = false := by simp at h ⊢; exact h
  have HM : Hid (eqTabF n k A B = decide (A = B)) := by show eqTabF n k A B = _; unfold eqTabF; rw [h]; rfl
  by_cases hlen : A.length = B.length
  · have hb0 : ((A.length : Int) != (B.length : Int)) = false := by simp [hlen]
    have HL : Hid (A.length = B.length) := hlen
    have hlm : A.length ≤ B.length := by omega
    clear hlen
    go_enter Tryz.func100, Tryz.ntmps100
    go_wp2
    go_loopw [5] (fun i wr => ∃ k' : Nat, i = .int .i64 k' ∧ k' ≤ A.length ∧ (∀ j, j < k' → row A j = row B j) ∧ wr.cell? ⟨w.heap.size, 1, none⟩ = some (.slice oa A.length ca) ∧ wr.cell? ⟨w.heap.size + 1, 1, none⟩ = some (.slice ob B.length cb) ∧ Below w.heap.size w wr) (fun i _ => A.length - (intOf i).toNat)
    case atStart => exact ⟨0, rfl, Nat.zero_le _, fun j hj => absurd hj (by omega), a1, b1, hb⟩
    case round =>
      clear a0 a1 b0 b1 hb
      obtain ⟨k', rfl, hk, hall, a1, b1, hb⟩ := hrel
      have HA : Hid (∀ j, j < k' → row A j = row B j) := hall
      clear hall
      by_cases hlt : k' < A.length
      · obtain ⟨b, off, rfl, hbs, hc⟩ := hA.at_ (by omega)
        obtain ⟨b', off', rfl, hbs', hc'⟩ := hB.at_ (by omega)
        obtain ⟨o1, c1, h1, r1⟩ := hc k' hlt
        obtain ⟨o2, c2, h2, r2⟩ := hc' k' (by omega)
        have hc1 := cell_keep h1 hb
        have hc2 := cell_keep h2 hb
        have hx1 := fun (x : After wr) => (r1.keep hb).keep x.bel
        have hx2 := fun (x : After wr) => (r2.keep hb).keep x.bel
        have HN : Hid (A = B → row A k' = row B k') := fun e => by rw [e]
        clear hc hc' h1 h2
        cases he : decide (row A k' = row B k')
        · go_wp2_with fail
          (refine wp_region_after (by kernel_rfl) (by kernel_rfl) ?_; have q_a1 := fun (x : After _) => cell_keep a1 x.bel; have q_b1 := fun (x : After _) => cell_keep b1 x.bel; have q_hc1 := fun (x : After _) => cell_keep hc1 x.bel; have q_hc2 := fun (x : After _) => cell_keep hc2 x.bel; (repeat (go_big_quiet_step ((first | (go_at_call 171; exact Ans.after (Ans.eqb (c_l2Ints _ _ _ _ _ _ _ (hx1 _) (hx2 _)) he)))))); clear q_a1; clear q_b1; clear q_hc1; clear q_hc2; refine wpQuiet_nil ?_; rintro _ ⟨⟨w1, hbn⟩, rfl⟩; (try simp only [After.w]); replace a1 := cell_keep a1 hbn; replace b1 := cell_keep b1 hbn; replace hc1 := cell_keep hc1 hbn; replace hc2 := cell_keep hc2 hbn; replace hb := bel_to (w := w) (by first | exact hb | exact hb.alloc hb.size _ | exact (hb.alloc hb.size _).alloc (Nat.le_trans hb.size (by simp)) _ | exact hb.setCell (by simp [hb.size]) _) hbn; clear hbn)
          go_wp2
          go_ret
          exact ⟨ret_bool (by rw [HM.out]; symm; rw [decide_eq_false_iff_not]; intro e; exact (of_decide_eq_false he) (HN.out e)), hb⟩
        · have HE : Hid (row A k' = row B k') := (show row A k' = row B k' from of_decide_eq_true he)
          go_wp2_with fail
          (refine wp_region_after (by kernel_rfl) (by kernel_rfl) ?_; have q_a1 := fun (x : After _) => cell_keep a1 x.bel; have q_b1 := fun (x : After _) => cell_keep b1 x.bel; have q_hc1 := fun (x : After _) => cell_keep hc1 x.bel; have q_hc2 := fun (x : After _) => cell_keep hc2 x.bel; (repeat (go_big_quiet_step ((first | (go_at_call 171; exact Ans.after (Ans.eqb (c_l2Ints _ _ _ _ _ _ _ (hx1 _) (hx2 _)) he)))))); clear q_a1; clear q_b1; clear q_hc1; clear q_hc2; refine wpQuiet_nil ?_; rintro _ ⟨⟨w1, hbn⟩, rfl⟩; (try simp only [After.w]); replace a1 := cell_keep a1 hbn; replace b1 := cell_keep b1 hbn; replace hc1 := cell_keep hc1 hbn; replace hc2 := cell_keep hc2 hbn; replace hb := bel_to (w := w) (by first | exact hb | exact hb.alloc hb.size _ | exact (hb.alloc hb.size _).alloc (Nat.le_trans hb.size (by simp)) _ | exact hb.setCell (by simp [hb.size]) _) hbn; clear hbn)
          go_wp2
          go_roundw
          case rel => exact ⟨k' + 1, by go_num, by omega, lt_step (p := fun j => row A j = row B j) HA.out HE.out, a1, b1, hb⟩
          case measure => simp [intOf]; omega
      · have HE : Hid (A = B) := rows_ext' HL.out fun j hj => HA.out j (by omega)
        go_wp2
        go_ret
        exact ⟨ret_bool (by rw [HM.out]; symm; rw [decide_eq_true_iff]; exact HE.out), hb⟩
  · have hb0 : ((A.length : Int) != (B.length : Int)) = true := by simp; omega
    go_enter Tryz.func100, Tryz.ntmps100
    go_wp2
    go_ret
    exact ⟨ret_bool (by rw [HM.out]; symm; rw [decide_eq_false_iff_not]; intro e; exact hlen (by rw [e])), hb⟩
end Go.Proofs.YtjbmpnbfiahdhaaGreat
namespace Go.Proofs.YtjbmpnbfiahdhaaGreat
open Go.RowKit
set_option linter.unusedVariables false
set_option maxRecDepth 100000

theorem Ans.eqi {P : Program} {f : FuncId} {args : Array Value} {w : World} {b b' : Int} (h : Ans P f args w (.int .i64 b)) (e : b = b') : Ans P f args w (.int .i64 b') := e ▸ h
theorem Ans.eqv {P : Program} {f : FuncId} {args : Array Value} {w : World} {v v' : Value} (h : Ans P f args w v) (e : v = v') : Ans P f args w v' := e ▸ h
theorem nthI_mem' {L : List Int} {k : Nat} (h : k < L.length) : nth L k ∈ L := List.mem_iff_getElem?.2 ⟨k, nth_eq h⟩
theorem bel_world {B : Nat} {w0 w : World} (h : Below B w0 w) : ∃ w', w' = w := ⟨w, rfl⟩
set_option maxHeartbeats 100000000 in
theorem w_FnReduced (w : World) {v0 : Value} (w0 : InBytes w v0) :
    Calls Tryz.prog 7 #[v0] w fun e w' => e = .returned (.bool true) ∧ Below w.heap.size w w' := by
  obtain ⟨oc, mc, capc, rfl, hmm, hB⟩ := w0
  have hb := Below.refl w.heap.size w
  by_cases hbig : (1048576 : Int) < mc
  · go_enter Tryz.func7, Tryz.ntmps7
    go_wp2_with fail
    refine Calls.mono (Ans.eqb (b' := true) (c_big _ _ _ _) (by simpa using hbig)) ?_
    rintro e w1 ⟨rfl, hbn⟩
    replace hb := bel_to hb hbn
    go_wp2
    go_ret
    exact ⟨rfl, hb⟩
  have hmc : mc ≤ 1048576 := by omega
  go_enter Tryz.func7, Tryz.ntmps7
  go_wp2_with fail
  refine Calls.mono (Ans.eqb (b' := false) (c_big _ _ _ _) (by simp only [decide_eq_false_iff_not]; omega)) ?_
  rintro e w1 ⟨rfl, hbn⟩
  replace hB := hB.keep hbn
  replace hb := bel_to hb hbn
  clear hbn
  clear hbig
  go_wp2_with fail
  refine (c_DrawCoverOf oc mc capc hmc _ hB).mono ?_
  rintro e w2 ⟨n, o, c, D, rfl, hI, hDl, hbn⟩
  replace hB := hB.keep hbn
  replace hb := bel_to hb hbn
  clear hbn
  have hDR : D.length ≤ Room := by unfold Room; omega
  go_wp2_with fail
  refine (c_CoverOf n o c D _ (hI.deps rfl hDR)).mono ?_
  rintro e w3 ⟨v5, rfl, hC, hbn⟩
  replace hB := hB.keep hbn
  replace hI := hI.keep hbn
  replace hb := bel_to hb hbn
  clear hbn
  obtain ⟨o5, c5, rfl, hc5, _⟩ := hC.cap
  have hCL := coverOf_le n D
  have HLW : Hid (areDepsF n D = true → sameMeaningF n D (coverOfF n D) = true ∧ isCoverF n (coverOfF n D) = true) := fun h => ⟨(cover_law h).1, (cover_law h).2.1⟩
  generalize hcc : coverOfF n D = C at *
  have HC : Hid (coverOfF n D = C) := hcc
  clear hcc
  have hCR : C.length ≤ Room := by unfold Room; omega
  have hCg : decide ((D.length : Int) < (C.length : Int)) = false := by simp; omega
  go_wp2_with fail
  refine (c_specCoverOf n o c D _ (hI.deps rfl hDR)).mono ?_
  rintro e w4 ⟨v6, rfl, hX, hbn⟩
  rw [HC.out] at hX
  obtain ⟨o6, c6, rfl⟩ := hX.shape
  replace hB := hB.keep hbn
  replace hI := hI.keep hbn
  replace hC := hC.keep hbn
  replace hb := bel_to hb hbn
  clear hbn
  go_wp2_with fail
  refine Calls.mono (Ans.eqb (b' := true) (c_specSameDeps o5 o6 c5 c6 C C _ (hC.deps rfl hCR) (hX.deps rfl hCR)) (by simp)) ?_
  rintro e w5 ⟨rfl, hbn⟩
  clear hX
  replace hB := hB.keep hbn
  replace hI := hI.keep hbn
  replace hC := hC.keep hbn
  replace hb := bel_to hb hbn
  clear hbn
  go_upto_region 7 with fail
  have hdD := hI.deps rfl hDR
  have hdC := hC.deps rfl hCR
  go_cut [60] from 38 to 60 (fun x wx => x = .bool false ∧ Below w5.heap.size w5 wx)
  case first =>
    have hbw := Below.refl w5.heap.size w5
    cases ha : areDepsF n D
    · go_wp2_with (first | (go_at_call 63; refine Calls.mono (Ans.eqb (c_specAreDeps n o c D _ (hdD.keep hbw)) ha) ?_; rintro e wz ⟨rfl, hbn⟩; replace hbw := bel_to hbw hbn; clear hbn) | fail)
      go_meet
      exact ⟨rfl, hbw⟩
    · obtain ⟨hsm, hic⟩ := HLW.out ha
      go_wp2_with (first | (go_at_call 63; refine Calls.mono (Ans.eqb (c_specAreDeps n o c D _ (hdD.keep hbw)) ha) ?_; rintro e wz ⟨rfl, hbn⟩; replace hbw := bel_to hbw hbn; clear hbn) | (go_at_call 64; refine Calls.mono (Ans.eqb (c_SameMeaning n o c D o5 c5 C _ (hdD.keep hbw) (hdC.keep hbw)) hsm) ?_; rintro e wz ⟨rfl, hbn⟩; replace hbw := bel_to hbw hbn; clear hbn) | (go_at_call 65; refine Calls.mono (Ans.eqb (c_IsCover n o5 c5 C _ (hdC.keep hbw) hc5) hic) ?_; rintro e wz ⟨rfl, hbn⟩; replace hbw := bel_to hbw hbn; clear hbn) | fail)
      go_meet
      exact ⟨by first | rfl | (simp; omega), hbw⟩
  case rest =>
    obtain ⟨rfl, hbn⟩ := hcut
    clear hdD hdC
    replace hB := hB.keep hbn
    replace hI := hI.keep hbn
    replace hC := hC.keep hbn
    replace hb := bel_to hb hbn
    clear hbn
    obtain ⟨w6, hwq⟩ := bel_world hb
    subst hwq
    clear hCg
    go_wp2_with fail
    refine (c_KeysOf n o c D _ (hI.deps rfl hDR)).mono ?_
    rintro e w7 ⟨v7, rfl, hK, hbn⟩
    replace hB := hB.keep hbn
    replace hI := hI.keep hbn
    replace hC := hC.keep hbn
    replace hb := bel_to hb hbn
    clear hbn
    obtain ⟨o7, c7, rfl⟩ := hK.shape
    have hKL := keysOf_len n D
    have HKL : Hid (∀ j, j < (keysOfF n D).length → 1 ≤ n ∧ n ≤ 5 ∧ closureOfF n D (nth (keysOfF n D) j) = allM n ∧ cap (primeF n D) (nth (keysOfF n D) j) = nth (keysOfF n D) j) := fun j hj => keys_law (nthI_mem' hj)
    generalize hpp : primeF n D = p at *
    have HP : Hid (primeF n D = p) := hpp
    clear hpp
    generalize hkk : keysOfF n D = K at *
    have HK : Hid (keysOfF n D = K) := hkk
    clear hkk
    have hK9 : K.length ≤ 1073741824 := hKL
    go_wp2_with fail
    refine Calls.mono (Ans.eqi (c_PrimeColumns n o c D _ (hI.deps rfl hDR)) HP.out) ?_
    rintro e w8 ⟨rfl, hbn⟩
    replace hB := hB.keep hbn
    replace hI := hI.keep hbn
    replace hC := hC.keep hbn
    replace hK := hK.keep hbn
    replace hb := bel_to hb hbn
    clear hbn
    go_wp2_with fail
    refine (c_specKeysOf n o c D _ (hI.deps rfl hDR)).mono ?_
    rintro e w9 ⟨v8, rfl, hY, hbn⟩
    rw [HK.out] at hY
    obtain ⟨o8, c8, rfl⟩ := hY.shape
    replace hB := hB.keep hbn
    replace hI := hI.keep hbn
    replace hC := hC.keep hbn
    replace hK := hK.keep hbn
    replace hb := bel_to hb hbn
    clear hbn
    go_wp2_with fail
    refine Calls.mono (c_lawSameInts o7 o8 c7 c8 K _ (hK.ints rfl hKL) (hY.ints rfl hKL)) ?_
    rintro e w10 ⟨rfl, hbn⟩
    clear hY
    replace hB := hB.keep hbn
    replace hI := hI.keep hbn
    replace hC := hC.keep hbn
    replace hK := hK.keep hbn
    replace hb := bel_to hb hbn
    clear hbn
    have hpp : (p != p) = false := by simp
    go_wp2_with fail
    refine Calls.mono (Ans.eqi (c_specPrimeColumns n o c D _ (hI.deps rfl hDR)) HP.out) ?_
    rintro e w11 ⟨rfl, hbn⟩
    replace hB := hB.keep hbn
    replace hI := hI.keep hbn
    replace hC := hC.keep hbn
    replace hK := hK.keep hbn
    replace hb := bel_to hb hbn
    clear hbn
    go_wp2_with fail
    go_loopw [8] (fun v wr => ∃ k : Nat, v = .int .i64 k ∧ k ≤ K.length ∧ Below w11.heap.size w11 wr) (fun v _ => K.length - (intOf v).toNat)
    case atStart => exact ⟨0, rfl, Nat.zero_le _, Below.refl _ _⟩
    case round =>
      obtain ⟨k, rfl, hk, hbn⟩ := hrel
      have hbo := hbn
      replace hB := hB.keep hbn
      replace hI := hI.keep hbn
      replace hC := hC.keep hbn
      replace hK := hK.keep hbn
      replace hb := bel_to hb hbn
      clear hbn
      obtain ⟨w12, hwq⟩ := bel_world hb
      subst hwq
      by_cases hlt : k < K.length
      · obtain ⟨b, off, e', hbs, hcell⟩ := (hK.ints rfl hKL).at_ (by omega)
        subst e'
        have hc1 := hcell k hlt
        clear hcell hbs
        obtain ⟨hn1, hn5, hcl, hpk⟩ := HKL.out k hlt
        have hdD := hI.deps rfl hDR
        generalize nth K k = x at *
        unfold cap at hpk
        have hpw := pow_wrap (n := n) (by omega) hn5
        have hp1 := hpw.1
        have hp2 := hpw.2.1
        have hp3 := hpw.2.2
        clear hpw
        have hn64 : 0 ≤ n ∧ n < 64 := ⟨by omega, by omega⟩
        have HCO : Hid (closureOfF n D x = 2 ^ n.toNat - 1) := hcl
        clear hcl
        have hxx : (x != x) = false := by simp
        have haa : ((2 : Int) ^ n.toNat - 1 != 2 ^ n.toNat - 1) = false := by simp
        go_wp2_with fail
        (refine wp_region_after (by kernel_rfl) (by kernel_rfl) ?_; have q_hc1 := fun (x : After _) => cell_keep hc1 x.bel; (repeat (go_big_quiet_step ((go_at_call 70; exact Ans.after (Ans.eqi (c_ClosureOf n _ c D x _ (hdD.keep (After.bel _))) HCO.out))))); clear q_hc1; refine wpQuiet_nil ?_; rintro _ ⟨⟨w1, hbn⟩, rfl⟩; (try simp only [After.w]); replace hc1 := cell_keep hc1 hbn; replace hB := hB.keep hbn; replace hI := hI.keep hbn; replace hC := hC.keep hbn; replace hK := hK.keep hbn; replace hbo := bel_to hbo hbn; replace hb := bel_to (w := w) (by first | exact hb | exact hb.alloc hb.size _ | exact (hb.alloc hb.size _).alloc (Nat.le_trans hb.size (by simp)) _ | exact hb.setCell (by simp [hb.size]) _) hbn; clear hbn)
        go_wp2
        go_roundw
        case rel => exact ⟨k + 1, by go_num, by omega, hbo⟩
        case measure => simp [intOf]; omega
      · clear hbo
        go_wp2_with fail
        refine (c_DrawProjectDeps oc mc capc hmc _ hB).mono ?_
        rintro e w13 ⟨n2, o2, c2, D2, s2, rfl, hJ, hDl2, hbn⟩
        replace hB := hB.keep hbn
        replace hI := hI.keep hbn
        replace hC := hC.keep hbn
        replace hK := hK.keep hbn
        replace hb := bel_to hb hbn
        clear hbn
        clear hI hC hK
        have hDR2 : D2.length ≤ Room := by unfold Room; omega
        go_wp2_with fail
        refine (c_ProjectDeps n2 o2 c2 D2 s2 _ (hJ.deps rfl hDR2)).mono ?_
        rintro e w14 ⟨v9, rfl, hQ, hbn⟩
        replace hB := hB.keep hbn
        replace hJ := hJ.keep hbn
        replace hb := bel_to hb hbn
        clear hbn
        obtain ⟨o9, c9, rfl⟩ := hQ.shape
        have hQR := proj_len n2 D2 s2
        have HQL : Hid (∀ j, j < (projF n2 D2 s2).length → St s2 ∧ St (nl (projF n2 D2 s2) j) ∧ Co (nr (projF n2 D2 s2) j) ∧ cap (nl (projF n2 D2 s2) j) s2 = nl (projF n2 D2 s2) j ∧ hasc s2 (nr (projF n2 D2 s2) j) = true ∧ impliesDepF n2 D2 (nl (projF n2 D2 s2) j) (nr (projF n2 D2 s2) j) = true) := fun j hj => proj_law (nth_mem hj)
        generalize hqq : projF n2 D2 s2 = Q at *
        have HQ : Hid (projF n2 D2 s2 = Q) := hqq
        clear hqq
        have hQ9 : Q.length ≤ 1073741824 := hQR
        go_wp2_with fail
        go_loopw [13] (fun v wr => ∃ k : Nat, v = .int .i64 k ∧ k ≤ Q.length ∧ Below w14.heap.size w14 wr) (fun v _ => Q.length - (intOf v).toNat)
        case atStart => exact ⟨0, rfl, Nat.zero_le _, Below.refl _ _⟩
        case round =>
          obtain ⟨j, rfl, hj, hbn⟩ := hrel
          have hbo := hbn
          replace hB := hB.keep hbn
          replace hJ := hJ.keep hbn
          replace hQ := hQ.keep hbn
          replace hb := bel_to hb hbn
          clear hbn
          obtain ⟨w15, hwq⟩ := bel_world hb
          subst hwq
          by_cases hlt2 : j < Q.length
          · obtain ⟨b2, off2, e', hbs, hcell⟩ := (hQ.deps rfl hQR).at_ (by omega)
            subst e'
            have hc1 := (hcell j hlt2).1
            have hc2 := (hcell j hlt2).2
            clear hcell hbs
            obtain ⟨hss, hsx, hsr, hcx, hhr, him⟩ := HQL.out j hlt2
            have hdJ := hJ.deps rfl hDR2
            generalize nl Q j = x at *
            generalize nr Q j = r at *
            unfold cap at hcx
            have hr0 := hsr.1
            have hr1 := hsr.2
            have hr64 : 0 ≤ r ∧ r < 64 := ⟨hr0, by omega⟩
            have hq2 : (bits BinOp.and .i64 (s2 / 2 ^ r.toNat) 1 == 0) = false := by have := hasn_eq hss hsr; unfold hasn at this; rw [this, hhr]; rfl
            have hxx : (x != x) = false := by simp
            clear hss hsx hsr hhr
            have HIM : Hid (impliesDepF n2 D2 x r = true) := him
            clear him
            go_wp2_with fail
            (refine wp_region_after (by kernel_rfl) (by kernel_rfl) ?_; have q_hc1 := fun (x : After _) => cell_keep hc1 x.bel; have q_hc2 := fun (x : After _) => cell_keep hc2 x.bel; (repeat (go_big_quiet_step ((go_at_call 73; exact Ans.after (Ans.eqb (c_ImpliesDep n2 o2 c2 D2 x r _ (hdJ.keep (After.bel _))) HIM.out))))); clear q_hc1; clear q_hc2; refine wpQuiet_nil ?_; rintro _ ⟨⟨w1, hbn⟩, rfl⟩; (try simp only [After.w]); replace hc1 := cell_keep hc1 hbn; replace hc2 := cell_keep hc2 hbn; replace hB := hB.keep hbn; replace hJ := hJ.keep hbn; replace hQ := hQ.keep hbn; replace hbo := bel_to hbo hbn; replace hb := bel_to (w := w) (by first | exact hb | exact hb.alloc hb.size _ | exact (hb.alloc hb.size _).alloc (Nat.le_trans hb.size (by simp)) _ | exact hb.setCell (by simp [hb.size]) _) hbn; clear hbn)
            go_wp2
            go_roundw
            case rel => exact ⟨j + 1, by go_num, by omega, hbo⟩
            case measure => simp [intOf]; omega
          · clear hbo
            go_wp2_with fail
            have H := c_DrawReduceLeft oc mc capc hmc _ hB
            unfold Draws3 at H
            refine H.mono ?_
            clear H
            rintro e w16 ⟨n3, o3, c3, D3, l3, r3, rfl, hR3, hDl3, hbn⟩
            replace hB := hB.keep hbn
            replace hJ := hJ.keep hbn
            replace hQ := hQ.keep hbn
            replace hb := bel_to hb hbn
            clear hbn
            have k16 := Blk.new w16 #[.int .i64 l3, .int .i64 r3] 46
            have hbn := (Below.refl w16.heap.size w16).alloc (Nat.le_refl _) (.cells #[.int .i64 l3, .int .i64 r3] 46)
            replace hB := hB.keep hbn
            replace hJ := hJ.keep hbn
            replace hQ := hQ.keep hbn
            replace hR3 := hR3.keep hbn
            replace hb := bel_to hb hbn
            clear hbn
            go_wp2_with fail
            refine (c_DrawIsCover oc mc capc hmc _ hB).mono ?_
            rintro e w17 ⟨n4, o4, c4, D4, rfl, hM, hDl4, hbn⟩
            replace hB := hB.keep hbn
            replace hJ := hJ.keep hbn
            replace hQ := hQ.keep hbn
            replace hR3 := hR3.keep hbn
            replace k16 := k16.keep hbn
            replace hb := bel_to hb hbn
            clear hbn
            have hc4 : D4.length ≤ c4 := by obtain ⟨_, _, e4, h4, _⟩ := hM.cap; cases e4; exact h4
            go_wp2_with fail
            refine (c_DrawSameMeaning oc mc capc hmc _ hB).mono ?_
            rintro e w18 ⟨n5, oE, cE, E5, oG, cG, G5, rfl, hE5, hG5, hEl, hGl, hbn⟩
            replace hB := hB.keep hbn
            replace hJ := hJ.keep hbn
            replace hQ := hQ.keep hbn
            replace hR3 := hR3.keep hbn
            replace k16 := k16.keep hbn
            replace hM := hM.keep hbn
            replace hb := bel_to hb hbn
            clear hbn
            have hDR3 : D3.length ≤ Room := by unfold Room; omega
            have hDR4 : D4.length ≤ Room := by unfold Room; omega
            have hER : E5.length ≤ Room := by unfold Room; omega
            have hGR : G5.length ≤ Room := by unfold Room; omega
            have hd2 := hJ.deps rfl hDR2
            have hdQ := hQ.deps rfl hQR
            have hd3 := hR3.deps rfl hDR3
            have hd4 := hM.deps rfl hDR4
            have hdE := hE5.deps rfl hER
            have hdG := hG5.deps rfl hGR
            obtain ⟨z3, HZ3⟩ : ∃ z, Hid (reduceF n3 D3 l3 r3 = z) := ⟨_, rfl⟩
            obtain ⟨q4, HQ4⟩ : ∃ q, Hid (isCoverF n4 D4 = q) := ⟨_, rfl⟩
            obtain ⟨q5, HQ5⟩ : ∃ q, Hid (sameMeaningF n5 E5 G5 = q) := ⟨_, rfl⟩
            have hz3 : (z3 == z3) = true := by simp
            have hr3 : (r3 == r3) = true := by simp
            have hq4 : (q4 == q4) = true := by simp
            have hq5 : (q5 == q5) = true := by simp
            have e0 := k16.cell 0 (.int .i64 l3) rfl
            have e1 := k16.cell 1 (.int .i64 r3) rfl
            clear hB hJ hQ hR3 hM hE5 hG5 k16
            go_upto_region 28 with fail
            refine wp_region_held_drew (S := fun w' => w'.cell? ⟨w16.heap.size, 0, none⟩ = some (.int .i64 l3) ∧ w'.cell? ⟨w16.heap.size, 1, none⟩ = some (.int .i64 r3) ∧ Below w18.heap.size w18 w') (by kernel_rfl) ⟨cell_keep e0 (Below.refl _ _).drew, cell_keep e1 (Below.refl _ _).drew, (Below.refl _ _).drew⟩ (fun hS => ?_)
            (refine wpAnyH_val (i := 0) (some 177) ?_ rfl rfl (by kernel_rfl) (by kernel_rfl) (by kernel_rfl) (fun _ _ _ h => h) (by rfl) (by assumption) ?_ ?_; rotate_left; (intro w hSw; go_simp; (try with_reducible rfl)); (try simp only [Act.put, List.setIfInBounds_toArray, List.set_cons_zero, List.set_cons_succ])); (refine wpAnyH_val (i := 1) (some 178) ?_ rfl rfl (by kernel_rfl) (by kernel_rfl) (by kernel_rfl) (fun _ _ _ h => h) (by rfl) (by assumption) ?_ ?_; rotate_left; (intro w hSw; go_simp; (try with_reducible rfl)); (try simp only [Act.put, List.setIfInBounds_toArray, List.set_cons_zero, List.set_cons_succ])); (refine wpAnyH_val (i := 2) (some 179) ?_ rfl rfl (by kernel_rfl) (by kernel_rfl) (by kernel_rfl) (fun _ _ _ h => h) (by rfl) (by assumption) ?_ ?_; rotate_left; (intro w hSw; go_simp; (try with_reducible rfl)); (try simp only [Act.put, List.setIfInBounds_toArray, List.set_cons_zero, List.set_cons_succ])); (refine wpAnyH_val (i := 3) (some 180) ?_ rfl rfl (by kernel_rfl) (by kernel_rfl) (by kernel_rfl) (fun _ _ _ h => h) (by rfl) (by assumption) ?_ ?_; rotate_left; (intro w hSw; go_simp; (try with_reducible rfl)); (try simp only [Act.put, List.setIfInBounds_toArray, List.set_cons_zero, List.set_cons_succ]))
            (refine wpAnyH_ready (rs := [4]) (by kernel_rfl) (by simp) ?_; refine AllReadyH.cons rfl (fun K hK => ?_) AllReadyH.nil; go_simp)
            refine (c_specProjectDeps n2 o2 c2 D2 s2 _ (hd2.keep hS.2.2)).mono ?_
            rintro e wz ⟨v9, rfl, h9, hbn⟩
            rw [HQ.out] at h9
            obtain ⟨oX, cX, rfl⟩ := h9.shape
            have hd9 := h9.deps rfl hQR
            clear h9
            have hS3 := (show _ ∧ _ ∧ Below w18.heap.size w18 _ from ⟨cell_keep hS.1 hbn, cell_keep hS.2.1 hbn, bel_to hS.2.2 hbn⟩)
            refine hK.out _ _ hS3 (fun hS2 => ?_)
            clear hK hbn hS hS2
            have hS := hS3
            clear hS3
            (try simp only [Act.put, List.setIfInBounds_toArray, List.set_cons_zero, List.set_cons_succ])
            (refine wpAnyH_ready (rs := [5]) (by kernel_rfl) (by simp) ?_; refine AllReadyH.cons rfl (fun K hK => ?_) AllReadyH.nil; go_simp)
            refine Calls.mono (Ans.eqb (b' := true) (c_specSameDeps o9 oX c9 cX Q Q _ (hdQ.keep hS.2.2) hd9) (by simp)) ?_
            rintro e wz ⟨rfl, hbn⟩
            have hS3 := (show _ ∧ _ ∧ Below w18.heap.size w18 _ from ⟨cell_keep hS.1 hbn, cell_keep hS.2.1 hbn, bel_to hS.2.2 hbn⟩)
            refine hK.out _ _ hS3 (fun hS2 => ?_)
            clear hK hbn hS hS2
            have hS := hS3
            clear hS3
            (try simp only [Act.put, List.setIfInBounds_toArray, List.set_cons_zero, List.set_cons_succ])
            (refine wpAnyH_val (i := 6) (some 183) ?_ rfl rfl (by kernel_rfl) (by kernel_rfl) (by kernel_rfl) (fun _ _ _ h => h) (by rfl) (by assumption) ?_ ?_; rotate_left; (intro w hSw; go_simp; (try with_reducible rfl)); (try simp only [Act.put, List.setIfInBounds_toArray, List.set_cons_zero, List.set_cons_succ])); (refine wpAnyH_val (i := 7) (some 184) ?_ rfl rfl (by kernel_rfl) (by kernel_rfl) (by kernel_rfl) (fun _ _ _ h => h) (by rfl) (by assumption) ?_ ?_; rotate_left; (intro w hSw; go_simp; (try with_reducible rfl)); (try simp only [Act.put, List.setIfInBounds_toArray, List.set_cons_zero, List.set_cons_succ])); (refine wpAnyH_val (i := 8) (some 185) ?_ rfl rfl (by kernel_rfl) (by kernel_rfl) (by kernel_rfl) (fun _ _ _ h => h) (by rfl) (by assumption) ?_ ?_; rotate_left; (intro w hSw; go_simp; (try with_reducible rfl)); (try simp only [Act.put, List.setIfInBounds_toArray, List.set_cons_zero, List.set_cons_succ])); (refine wpAnyH_val (i := 9) (some 186) ?_ rfl rfl (by kernel_rfl) (by kernel_rfl) (by kernel_rfl) (fun _ _ _ h => h) (by rfl) (by assumption) ?_ ?_; rotate_left; (intro w hSw; go_simp; (try with_reducible rfl)); (try simp only [Act.put, List.setIfInBounds_toArray, List.set_cons_zero, List.set_cons_succ])); (refine wpAnyH_val (i := 11) (some 188) ?_ rfl rfl (by kernel_rfl) (by kernel_rfl) (by kernel_rfl) (fun _ _ _ h => h) (by rfl) (by assumption) ?_ ?_; rotate_left; (intro w hSw; go_simp; (try with_reducible rfl)); (try simp only [Act.put, List.setIfInBounds_toArray, List.set_cons_zero, List.set_cons_succ])); (refine wpAnyH_val (i := 12) (some 189) ?_ rfl rfl (by kernel_rfl) (by kernel_rfl) (by kernel_rfl) (fun _ _ _ h => h) (by rfl) (by assumption) ?_ ?_; rotate_left; (intro w hSw; go_simp; (try with_reducible rfl)); (try simp only [Act.put, List.setIfInBounds_toArray, List.set_cons_zero, List.set_cons_succ])); (refine wpAnyH_val (i := 13) (some 190) ?_ rfl rfl (by kernel_rfl) (by kernel_rfl) (by kernel_rfl) (fun _ _ _ h => h) (by rfl) (by assumption) ?_ ?_; rotate_left; (intro w hSw; go_simp; (try with_reducible rfl)); (try simp only [Act.put, List.setIfInBounds_toArray, List.set_cons_zero, List.set_cons_succ]))
            (refine wpAnyH_ready (rs := [10]) (by kernel_rfl) (by simp) ?_; refine AllReadyH.cons rfl (fun K hK => ?_) AllReadyH.nil; go_simp)
            refine Calls.mono (Ans.eqv (v' := .agg #[.int .i64 z3, .int .i64 r3]) (c_ReduceLeft n3 o3 c3 D3 l3 r3 _ (hd3.keep hS.2.2)) (by rw [HZ3.out])) ?_
            rintro e wz ⟨rfl, hbn⟩
            have hS3 := (show _ ∧ _ ∧ Below w18.heap.size w18 _ from ⟨cell_keep hS.1 hbn, cell_keep hS.2.1 hbn, bel_to hS.2.2 hbn⟩)
            refine hK.out _ _ hS3 (fun hS2 => ?_)
            clear hK hbn hS hS2
            have hS := hS3
            clear hS3
            (try simp only [Act.put, List.setIfInBounds_toArray, List.set_cons_zero, List.set_cons_succ])
            (refine wpAnyH_ready (rs := [14]) (by kernel_rfl) (by simp) ?_; refine AllReadyH.cons rfl (fun K hK => ?_) AllReadyH.nil; go_simp)
            refine Calls.mono (Ans.eqv (v' := .agg #[.int .i64 z3, .int .i64 r3]) (c_specReduceLeft n3 o3 c3 D3 l3 r3 _ (hd3.keep hS.2.2)) (by rw [HZ3.out])) ?_
            rintro e wz ⟨rfl, hbn⟩
            have hS3 := (show _ ∧ _ ∧ Below w18.heap.size w18 _ from ⟨cell_keep hS.1 hbn, cell_keep hS.2.1 hbn, bel_to hS.2.2 hbn⟩)
            refine hK.out _ _ hS3 (fun hS2 => ?_)
            clear hK hbn hS hS2
            have hS := hS3
            clear hS3
            (try simp only [Act.put, List.setIfInBounds_toArray, List.set_cons_zero, List.set_cons_succ])
            (refine wpAnyH_val (i := 15) (some 192) ?_ rfl rfl (by kernel_rfl) (by kernel_rfl) (by kernel_rfl) (fun _ _ _ h => h) (by rfl) (by assumption) ?_ ?_; rotate_left; (intro w hSw; go_simp; (try with_reducible rfl)); (try simp only [Act.put, List.setIfInBounds_toArray, List.set_cons_zero, List.set_cons_succ])); (refine wpAnyH_val (i := 16) (some 193) ?_ rfl rfl (by kernel_rfl) (by kernel_rfl) (by kernel_rfl) (fun _ _ _ h => h) (by rfl) (by assumption) ?_ ?_; rotate_left; (intro w hSw; go_simp; (try with_reducible rfl)); (try simp only [Act.put, List.setIfInBounds_toArray, List.set_cons_zero, List.set_cons_succ])); (refine wpAnyH_val (i := 17) (some 194) ?_ rfl rfl (by kernel_rfl) (by kernel_rfl) (by kernel_rfl) (fun _ _ _ h => h) (by rfl) (by assumption) ?_ ?_; rotate_left; (intro w hSw; go_simp; (try with_reducible rfl)); (try simp only [Act.put, List.setIfInBounds_toArray, List.set_cons_zero, List.set_cons_succ])); (refine wpAnyH_val (i := 18) (some 195) ?_ rfl rfl (by kernel_rfl) (by kernel_rfl) (by kernel_rfl) (fun _ _ _ h => h) (by rfl) (by assumption) ?_ ?_; rotate_left; (intro w hSw; go_simp; (try with_reducible rfl)); (try simp only [Act.put, List.setIfInBounds_toArray, List.set_cons_zero, List.set_cons_succ])); (refine wpAnyH_val (i := 19) (some 196) ?_ rfl rfl (by kernel_rfl) (by kernel_rfl) (by kernel_rfl) (fun _ _ _ h => h) (by rfl) (by assumption) ?_ ?_; rotate_left; (intro w hSw; go_simp; (try with_reducible rfl)); (try simp only [Act.put, List.setIfInBounds_toArray, List.set_cons_zero, List.set_cons_succ])); (refine wpAnyH_val (i := 21) (some 198) ?_ rfl rfl (by kernel_rfl) (by kernel_rfl) (by kernel_rfl) (fun _ _ _ h => h) (by rfl) (by assumption) ?_ ?_; rotate_left; (intro w hSw; go_simp; (try with_reducible rfl)); (try simp only [Act.put, List.setIfInBounds_toArray, List.set_cons_zero, List.set_cons_succ])); (refine wpAnyH_val (i := 22) (some 199) ?_ rfl rfl (by kernel_rfl) (by kernel_rfl) (by kernel_rfl) (fun _ _ _ h => h) (by rfl) (by assumption) ?_ ?_; rotate_left; (intro w hSw; go_simp; (try with_reducible rfl)); (try simp only [Act.put, List.setIfInBounds_toArray, List.set_cons_zero, List.set_cons_succ]))
            (refine wpAnyH_ready (rs := [20]) (by kernel_rfl) (by simp) ?_; refine AllReadyH.cons rfl (fun K hK => ?_) AllReadyH.nil; go_simp)
            refine Calls.mono (Ans.eqb (c_IsCover n4 o4 c4 D4 _ (hd4.keep hS.2.2) hc4) HQ4.out) ?_
            rintro e wz ⟨rfl, hbn⟩
            have hS3 := (show _ ∧ _ ∧ Below w18.heap.size w18 _ from ⟨cell_keep hS.1 hbn, cell_keep hS.2.1 hbn, bel_to hS.2.2 hbn⟩)
            refine hK.out _ _ hS3 (fun hS2 => ?_)
            clear hK hbn hS hS2
            have hS := hS3
            clear hS3
            (try simp only [Act.put, List.setIfInBounds_toArray, List.set_cons_zero, List.set_cons_succ])
            (refine wpAnyH_ready (rs := [23]) (by kernel_rfl) (by simp) ?_; refine AllReadyH.cons rfl (fun K hK => ?_) AllReadyH.nil; go_simp)
            refine Calls.mono (Ans.eqb (c_specIsCover n4 o4 c4 D4 _ (hd4.keep hS.2.2) hc4) HQ4.out) ?_
            rintro e wz ⟨rfl, hbn⟩
            have hS3 := (show _ ∧ _ ∧ Below w18.heap.size w18 _ from ⟨cell_keep hS.1 hbn, cell_keep hS.2.1 hbn, bel_to hS.2.2 hbn⟩)
            refine hK.out _ _ hS3 (fun hS2 => ?_)
            clear hK hbn hS hS2
            have hS := hS3
            clear hS3
            (try simp only [Act.put, List.setIfInBounds_toArray, List.set_cons_zero, List.set_cons_succ])
            (refine wpAnyH_val (i := 24) (some 201) ?_ rfl rfl (by kernel_rfl) (by kernel_rfl) (by kernel_rfl) (fun _ _ _ h => h) (by rfl) (by assumption) ?_ ?_; rotate_left; (intro w hSw; go_simp; (try with_reducible rfl)); (try simp only [Act.put, List.setIfInBounds_toArray, List.set_cons_zero, List.set_cons_succ])); (refine wpAnyH_val (i := 25) (some 202) ?_ rfl rfl (by kernel_rfl) (by kernel_rfl) (by kernel_rfl) (fun _ _ _ h => h) (by rfl) (by assumption) ?_ ?_; rotate_left; (intro w hSw; go_simp; (try with_reducible rfl)); (try simp only [Act.put, List.setIfInBounds_toArray, List.set_cons_zero, List.set_cons_succ])); (refine wpAnyH_val (i := 26) (some 203) ?_ rfl rfl (by kernel_rfl) (by kernel_rfl) (by kernel_rfl) (fun _ _ _ h => h) (by rfl) (by assumption) ?_ ?_; rotate_left; (intro w hSw; go_simp; (try with_reducible rfl)); (try simp only [Act.put, List.setIfInBounds_toArray, List.set_cons_zero, List.set_cons_succ])); (refine wpAnyH_val (i := 27) (some 204) ?_ rfl rfl (by kernel_rfl) (by kernel_rfl) (by kernel_rfl) (fun _ _ _ h => h) (by rfl) (by assumption) ?_ ?_; rotate_left; (intro w hSw; go_simp; (try with_reducible rfl)); (try simp only [Act.put, List.setIfInBounds_toArray, List.set_cons_zero, List.set_cons_succ])); (refine wpAnyH_val (i := 28) (some 205) ?_ rfl rfl (by kernel_rfl) (by kernel_rfl) (by kernel_rfl) (fun _ _ _ h => h) (by rfl) (by assumption) ?_ ?_; rotate_left; (intro w hSw; go_simp; (try with_reducible rfl)); (try simp only [Act.put, List.setIfInBounds_toArray, List.set_cons_zero, List.set_cons_succ])); (refine wpAnyH_val (i := 29) (some 206) ?_ rfl rfl (by kernel_rfl) (by kernel_rfl) (by kernel_rfl) (fun _ _ _ h => h) (by rfl) (by assumption) ?_ ?_; rotate_left; (intro w hSw; go_simp; (try with_reducible rfl)); (try simp only [Act.put, List.setIfInBounds_toArray, List.set_cons_zero, List.set_cons_succ])); (refine wpAnyH_val (i := 31) (some 208) ?_ rfl rfl (by kernel_rfl) (by kernel_rfl) (by kernel_rfl) (fun _ _ _ h => h) (by rfl) (by assumption) ?_ ?_; rotate_left; (intro w hSw; go_simp; (try with_reducible rfl)); (try simp only [Act.put, List.setIfInBounds_toArray, List.set_cons_zero, List.set_cons_succ])); (refine wpAnyH_val (i := 32) (some 209) ?_ rfl rfl (by kernel_rfl) (by kernel_rfl) (by kernel_rfl) (fun _ _ _ h => h) (by rfl) (by assumption) ?_ ?_; rotate_left; (intro w hSw; go_simp; (try with_reducible rfl)); (try simp only [Act.put, List.setIfInBounds_toArray, List.set_cons_zero, List.set_cons_succ])); (refine wpAnyH_val (i := 33) (some 210) ?_ rfl rfl (by kernel_rfl) (by kernel_rfl) (by kernel_rfl) (fun _ _ _ h => h) (by rfl) (by assumption) ?_ ?_; rotate_left; (intro w hSw; go_simp; (try with_reducible rfl)); (try simp only [Act.put, List.setIfInBounds_toArray, List.set_cons_zero, List.set_cons_succ]))
            (refine wpAnyH_ready (rs := [30]) (by kernel_rfl) (by simp) ?_; refine AllReadyH.cons rfl (fun K hK => ?_) AllReadyH.nil; go_simp)
            refine Calls.mono (Ans.eqb (c_SameMeaning n5 oE cE E5 oG cG G5 _ (hdE.keep hS.2.2) (hdG.keep hS.2.2)) HQ5.out) ?_
            rintro e wz ⟨rfl, hbn⟩
            have hS3 := (show _ ∧ _ ∧ Below w18.heap.size w18 _ from ⟨cell_keep hS.1 hbn, cell_keep hS.2.1 hbn, bel_to hS.2.2 hbn⟩)
            refine hK.out _ _ hS3 (fun hS2 => ?_)
            clear hK hbn hS hS2
            have hS := hS3
            clear hS3
            (try simp only [Act.put, List.setIfInBounds_toArray, List.set_cons_zero, List.set_cons_succ])
            (refine wpAnyH_ready (rs := [34]) (by kernel_rfl) (by simp) ?_; refine AllReadyH.cons rfl (fun K hK => ?_) AllReadyH.nil; go_simp)
            refine Calls.mono (Ans.eqb (c_specSameMeaning n5 oE cE E5 oG cG G5 _ (hdE.keep hS.2.2) (hdG.keep hS.2.2)) HQ5.out) ?_
            rintro e wz ⟨rfl, hbn⟩
            have hS3 := (show _ ∧ _ ∧ Below w18.heap.size w18 _ from ⟨cell_keep hS.1 hbn, cell_keep hS.2.1 hbn, bel_to hS.2.2 hbn⟩)
            refine hK.out _ _ hS3 (fun hS2 => ?_)
            clear hK hbn hS hS2
            have hS := hS3
            clear hS3
            (try simp only [Act.put, List.setIfInBounds_toArray, List.set_cons_zero, List.set_cons_succ])
            (refine wpAnyH_val (i := 35) (some 212) ?_ rfl rfl (by kernel_rfl) (by kernel_rfl) (by kernel_rfl) (fun _ _ _ h => h) (by rfl) (by assumption) ?_ ?_; rotate_left; (intro w hSw; go_simp; (try with_reducible rfl)); (try simp only [Act.put, List.setIfInBounds_toArray, List.set_cons_zero, List.set_cons_succ])); (refine wpAnyH_val (i := 36) (some 213) ?_ rfl rfl (by kernel_rfl) (by kernel_rfl) (by kernel_rfl) (fun _ _ _ h => h) (by rfl) (by assumption) ?_ ?_; rotate_left; (intro w hSw; go_simp; (try with_reducible rfl)); (try simp only [Act.put, List.setIfInBounds_toArray, List.set_cons_zero, List.set_cons_succ])); (refine wpAnyH_val (i := 37) (some 2) ?_ rfl rfl (by kernel_rfl) (by kernel_rfl) (by kernel_rfl) (fun _ _ _ h => h) (by rfl) (by assumption) ?_ ?_; rotate_left; (intro w hSw; go_simp; (try with_reducible rfl)); (try simp only [Act.put, List.setIfInBounds_toArray, List.set_cons_zero, List.set_cons_succ]))
            refine wpAnyH_done (by kernel_rfl) ?_ _
            try dsimp only [NoPanic, Exit.then]
            go_wp2
            go_ret
            exact ⟨rfl, bel_to hb hS.2.2⟩
end Go.Proofs.YtjbmpnbfiahdhaaGreat
namespace Go.Proofs.YtjbmpnbfiahdhaaGreat
open Go.ChangeShapes Go.WideShapes Go.ChangeAt Go.RowKit
set_option linter.unusedVariables false
set_option maxRecDepth 100000

theorem open_ints {H : Type} {enc : TypeId × Value → H} {W : World} {base : Nat} {held : Bool} {v : Value} {d : DataW H} {ps : List MemPlace} (hok : Value.okWide Tryz.prog W .any base 58 v)
    (h : DataW.Trod enc Tryz.prog W 0 (fun _ => true) held 58 v d ps) : InInts W v := by
  obtain ⟨a0, len0, cap0, rfl⟩ := okWide_slice Tryz.underlying58 hok
  obtain ⟨fuel, hf⟩ := h
  rcases Go.ChangeShapes.open_ints Tryz.underlying58 Tryz.underlying3 (by kernel_rfl) hf with ⟨hcs, _⟩ | ⟨x, l, c, zs, hcs, _, hl, hm, hz, _, hcell, hwz⟩
  · simp [Value.cells] at hcs
    obtain ⟨rfl, rfl, rfl⟩ := hcs
    exact ⟨_, _, _, [], rfl, .inl ⟨rfl, rfl, rfl, rfl⟩⟩
  · simp [Value.cells] at hcs
    obtain ⟨rfl, rfl, rfl⟩ := hcs
    exact ⟨_, _, _, zs, rfl, .inr ⟨_, rfl, hl, hm, by simpa using hz, hcell, hwz⟩⟩
end Go.Proofs.YtjbmpnbfiahdhaaGreat
namespace Go.Proofs.YtjbmpnbfiahdhaaGreat
open Go.ChangeShapes Go.WideShapes Go.ChangeAt Go.RowKit Go.Joins
set_option linter.unusedVariables false
set_option maxRecDepth 100000

theorem add_at (b off j : Nat) : (⟨b, off, none⟩ : Addr).add j = ⟨b, off + j, none⟩ := by unfold Addr.add; split <;> simp_all

theorem open_deps {H : Type} {enc : TypeId × Value → H} {W : World} {base : Nat} {held : Bool} {v : Value} {d : DataW H} {ps : List MemPlace} (hok : Value.okWide Tryz.prog W .any base 25 v)
    (h : DataW.Trod enc Tryz.prog W 0 (fun _ => true) held 25 v d ps) : InDeps W v := by
  obtain ⟨a0, len0, cap0, rfl⟩ := okWide_slice Tryz.underlying25 hok
  obtain ⟨fuel, hf⟩ := h
  rcases Go.Deep.open_slice_pairs Tryz.underlying25 Tryz.underlying134 (by kernel_rfl) rfl rfl (by kernel_rfl) (by kernel_rfl) hf with ⟨hcs, _⟩ | ⟨x, l, c, m, n, V0, V1, D0, D1, P0, P1, hcs, _, hl, hm, hmm, _, hcell⟩
  · simp [Value.cells] at hcs
    obtain ⟨rfl, rfl, rfl⟩ := hcs
    exact ⟨_, _, _, rfl, Nat.zero_le _, fun _ => ⟨[], rfl, by simp, fun h => absurd h (by simp)⟩⟩
  · simp [Value.cells] at hcs
    obtain ⟨rfl, rfl, rfl⟩ := hcs
    simp only [if_true] at hmm
    subst hmm
    refine ⟨_, _, _, rfl, Nat.le_trans hl hm, fun hr => ?_⟩
    have each : ∀ i, i < len0 → ∃ q : Int × Int, V0 i = .int .i64 q.1 ∧ V1 i = .int .i64 q.2 := by
      intro i hi
      obtain ⟨_, _, t0, t1⟩ := hcell i (by omega)
      obtain ⟨z0, e0, _⟩ := DataW.trod_int Tryz.underlying3 t0
      obtain ⟨z1, e1, _⟩ := DataW.trod_int Tryz.underlying3 t1
      simp at e0 e1
      exact ⟨(z0, z1), e0, e1⟩
    obtain ⟨q, hq⟩ := Go.Deep.choose_lt each
    refine ⟨(List.range len0).map q, by simp, by simpa using hr, fun h0 => ?_⟩
    simp only [List.length_map, List.length_range] at h0
    obtain ⟨b, off, spot⟩ := x
    have hc := (hcell 0 (by omega)).1
    have hspot : spot = none := by simpa [Addr.add] using World.cell?_spot hc
    subst hspot
    refine ⟨b, off, rfl, World.block_lt_of_cell? W ⟨b, off, none⟩ (by simpa [Addr.add] using hc), fun k hk => ?_⟩
    simp only [List.length_map, List.length_range] at hk
    obtain ⟨c0, c1, _⟩ := hcell k (by omega)
    rw [add_at] at c0 c1
    obtain ⟨e0, e1⟩ := hq k hk
    rw [e0] at c0
    rw [e1] at c1
    rw [Nat.add_assoc, c0, c1]
    have e : ((List.range len0).map q).getD k (0, 0) = q k := by simp [List.getD, hk]
    unfold nl nr
    rw [e]; exact ⟨rfl, rfl⟩

theorem open_dep {H : Type} {enc : TypeId × Value → H} {W : World} {base : Nat} {held : Bool} {v : Value} {d : DataW H} {ps : List MemPlace} (hok : Value.okWide Tryz.prog W .any base 134 v)
    (h : DataW.Trod enc Tryz.prog W 0 (fun _ => true) held 134 v d ps) : ∃ l r : Int, v = .agg #[.int .i64 l, .int .i64 r] ∧ (Lit.int .i64 l).wf = true ∧ (Lit.int .i64 r).wf = true := by
  obtain ⟨c0, c1, y0, y1, m, rfl, rfl, rfl, hy0, hy1⟩ := open_agg2 Tryz.underlying134 (by kernel_rfl) (by kernel_rfl) hok h
  obtain ⟨z0, e0, _, w0⟩ := DataW.trod_int Tryz.underlying3 hy0
  obtain ⟨z1, e1, _, w1⟩ := DataW.trod_int Tryz.underlying3 hy1
  simp at e0 e1
  subst e0 e1
  exact ⟨_, _, rfl, w0, w1⟩
end Go.Proofs.YtjbmpnbfiahdhaaGreat
