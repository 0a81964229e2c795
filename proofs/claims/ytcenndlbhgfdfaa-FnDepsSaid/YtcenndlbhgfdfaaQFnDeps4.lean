/- Contracts and lemmas for FnDeps, part 4 of 5. -/
import Derived.Test.YtcenndlbhgfdfaaQFnDeps1
import Derived.Test.YtcenndlbhgfdfaaQFnDeps2
import Derived.Test.YtcenndlbhgfdfaaQFnDeps3
import Derived.Deep.RegionLaw
import Derived.Laws.BytesArg
import Derived.Laws.DeepStrings4
import Derived.Lib.CutLaws
import Derived.Test.YtcenndlbhgfdfaaShelf
namespace Go.Proofs.Ytcenndlbhgfdfaa
open Go.RowKit
set_option linter.unusedVariables false
set_option maxRecDepth 100000

set_option maxHeartbeats 3200000 in
theorem c_l3Any (g : Nat) (w : World) (hc : Cur w g) :
    Calls Try.prog 69 #[.pointer (some ⟨g, 0, none⟩)] w fun e w' => ∃ (n : Int) (o : Option Addr) (c : Nat) (xs : List Value) (R : List (List Int)), e = .returned (.agg #[.int .i64 n, .slice o R.length c]) ∧ OwnRows w' w.heap.size (.slice o R.length c) xs R ∧ (R.length ≤ 13 ∧ ∀ j, j < R.length → (row R j).length ≤ 5) ∧ Cur w' g ∧ w.grownBy w' (some g) := by
  obtain ⟨i0, hi, hz0, hz1, hz2⟩ := info_parts info_int
  obtain ⟨j0, hj, hy0, hy1, hy2⟩ := info_parts info_ints
  have hlt := hc.lt
  have kZ := Blk.new w #[.int .i64 0, .slice none 0 0] 26
  have hG := grown_of_below ((Below.refl w.heap.size w).alloc (Nat.le_refl _) (.cells #[.int .i64 0, .slice none 0 0] 26)) (some g)
  replace hc := cur_alloc hc (.cells #[.int .i64 0, .slice none 0 0] 26)
  go_enter Try.func69, Try.ntmps69
  go_wp2_with fail
  refine (c_l3Table g _ hc).mono ?_
  rintro e w1 ⟨N, o, c, xs, R, rfl, hO, ⟨_, _, hRl, hlen⟩, hc1, hg⟩
  have HLn : Hid (∀ j, j < R.length → (row R j).length ≤ 5) := hlen
  clear hlen
  simp only [World.size_alloc] at hO
  replace kZ := kZ.cur hg (show w.heap.size ≠ g by omega)
  replace hG := grown_trans hG hg
  clear hc hg
  have kT := Blk.new w1 #[.int .i64 N, .slice o R.length c] 26
  have hz := kZ.lt
  have av : Avoid w1.heap.size (.slice o R.length c) xs := fun y hy e => by
    have := hO.old (Nat.le_refl _) y hy _ e
    omega
  have hba := (Below.refl w1.heap.size w1).alloc (Nat.le_refl _) (.cells #[.int .i64 N, .slice o R.length c] 26)
  replace kZ := kZ.keep hba
  replace hO := hO.keep hba
  replace hc1 := hc1.keep hba
  replace hG := grown_trans hG (grown_of_below hba _)
  clear hba
  go_upto_region 2 with fail
  generalize w1.alloc (.cells #[.int .i64 N, .slice o R.length c] 26) = w2 at *
  obtain ⟨k6, hk6⟩ : ∃ k, w1.heap.size = k := ⟨_, rfl⟩
  rw [hk6] at kT hz av
  simp only [hk6]
  clear hk6
  go_wp2_with fail
  refine (c_l1Below g 12 (by omega) _ hc1).mono ?_
  rintro e w3 ⟨q, rfl, _, _, _, hc3, hg⟩
  replace kZ := kZ.cur hg (show w.heap.size ≠ g by omega)
  replace kT := kT.cur hg (show k6 ≠ g by omega)
  replace hO := hO.cur hg (show g < w.heap.size + 1 by omega)
  replace hG := grown_trans hG hg
  clear hc1 hg
  have hk6 := kT.lt
  have hlt3 := hc3.lt
  by_cases e0 : q = 0
  · have hL := fun T => lit_ints w3 #[.int .i64 0, .int .i64 1, .int .i64 5, .int .i64 6] [0, 1, 5, 6] (by simp) (fun k hk => by match k, hk with | 0, _ => rfl | 1, _ => rfl | 2, _ => rfl | 3, _ => rfl) T
    go_wp2_with fail
    refine (c_l1PickInt g _ 4 [0, 1, 5, 6] (by simp) (by simp) _ (cur_alloc hc3 _) (hL _) (fun a e => by injection e with e; subst e; simp; omega)).mono ?_
    rintro e w4 ⟨n, rfl, _, hc4, hg⟩
    replace hg := grown_alloc hg
    replace kZ := kZ.cur hg (show w.heap.size ≠ g by omega)
    replace kT := kT.cur hg (show k6 ≠ g by omega)
    replace hO := hO.cur hg (show g < w.heap.size + 1 by omega)
    replace hG := grown_trans hG hg
    clear hc3 hg hL
    have n0 := kT.cell 0 (.int .i64 N) rfl
    have g0 := kT.free 0
    have kT2 : Blk _ k6 #[.int .i64 n, .slice o R.length c] 26 := kT.set 0 (.int .i64 n)
    have kZ2 := kZ.far ⟨k6, 0, none⟩ (.int .i64 n) (show w.heap.size ≠ k6 by omega)
    have hO2 := ownRows_setAvoid hO av 0 (.int .i64 n)
    have hc5 := hc4.set (j := 0) (v := .int .i64 n) (show g < k6 by omega)
    have hG2 := grown_new (j := 0) (v := .int .i64 n) hG (show w.heap.size ≤ k6 by omega)
    clear kZ hO hc4 hG
    have r0 := kT2.cell 0 (.int .i64 n) rfl
    have r1 := kT2.cell 1 (.slice o R.length c) rfl
    have z0 := kZ2.cell 0 (.int .i64 0) rfl
    have z1 := kZ2.cell 1 (.slice none 0 0) rfl
    have f0 := kZ2.free 0
    have f1 := kZ2.free 1
    have k2 : Blk _ w.heap.size #[.int .i64 n, .slice o R.length c] 26 := (kZ2.set 0 (.int .i64 n)).set 1 (.slice o R.length c)
    have q0 := k2.cell 0 (.int .i64 n) rfl
    have q1 := k2.cell 1 (.slice o R.length c) rfl
    go_wp2
    refine bodyPost_ret (v := .agg #[.int .i64 n, .slice o R.length c]) (by simp only [results, Try.results69]; simp [go_sem, q0, q1]) rfl ?_
    exact ⟨n, o, c, xs, R, rfl, ((hO2.far_set 0 (.int .i64 n) (Nat.lt_succ_self _)).far_set 1 (.slice o R.length c) (Nat.lt_succ_self _)).based (Nat.le_succ _), ⟨by omega, HLn.out⟩, (hc5.set (j := 0) (v := .int .i64 n) hlt).set (j := 1) (v := .slice o R.length c) hlt, grown_new (j := 1) (v := .slice o R.length c) (grown_new (j := 0) (v := .int .i64 n) hG2 (Nat.le_refl _)) (Nat.le_refl _)⟩
  · by_cases e1 : q = 1
    · have hL := fun T => lit_ints w3 #[.int .i64 (-2), .int .i64 (-1), .int .i64 40, .int .i64 41] [-2, -1, 40, 41] (by simp) (fun k hk => by match k, hk with | 0, _ => rfl | 1, _ => rfl | 2, _ => rfl | 3, _ => rfl) T
      have hxl := hO.len
      have n1 := kT.cell 1 (.slice o R.length c) rfl
      have n1d := kT.drew.cell 1 (.slice o R.length c) rfl
      have n1a := fun cs T => (kT.alloc (.cells cs T)).cell 1 (.slice o R.length c) rfl
      have n1b := fun cs T => (kT.alloc (.cells cs T)).drew.cell 1 (.slice o R.length c) rfl
      go_wp2_with fail
      go_region_law (first
        | ((try go_simp); refine (c_l1PickInt g _ 4 [-2, -1, 40, 41] (by simp) (by simp) _ (by first | exact cur_alloc hc3 _ | exact (cur_alloc hc3 _).keep (Below.refl _ _).drew | exact cur_alloc (hc3.keep (Below.refl _ _).drew) _) (by first | exact hL _ | exact (hL _).keep (Below.refl _ _).drew) (fun a e => by injection e with e; subst e; simp; omega)).mono ?_; rintro e w5 ⟨x, rfl, _, hc5, hg⟩; have hg3 : w3.grownBy w5 (some g) := (by first | exact grown_alloc hg | exact grown_alloc (drew_grown hg) | exact drew_grown (grown_alloc hg)); have kT5 := kT.cur hg3 (show k6 ≠ g by omega); have kZ5 := kZ.cur hg3 (show w.heap.size ≠ g by omega); have hO5 := hO.cur hg3 (show g < w.heap.size + 1 by omega); have hG5 := grown_trans hG hg3; have q5 := kT5.cell 1 (.slice o R.length c) rfl; have q5a := fun cs T => (kT5.alloc (.cells cs T)).cell 1 (.slice o R.length c) rfl; have q5b := fun cs T cs' T' => ((kT5.alloc (.cells cs T)).alloc (.cells cs' T')).cell 1 (.slice o R.length c) rfl; clear hg hg3)
        | (have hba := (Below.refl w5.heap.size w5).alloc (Nat.le_refl _) (.cells #[.int .i64 1, .int .i64 x] 3); have hI6 : OwnI (w5.alloc (.cells #[.int .i64 1, .int .i64 x] 3)) w5.heap.size (.slice (some ⟨w5.heap.size, 0, none⟩) 2 2) [1, x] := World.ownsRow_lit w5 #[.int .i64 1, .int .i64 x] 2 (Nat.le_refl _) (by decide) rfl; have ap6 := OwnRows.fresh hO5 hI6; have kT6 := kT5.keep hba; have kZ6 := kZ5.keep hba; have hO6 := hO5.keep hba; have hc6 := hc5.keep hba; have hG6 := grown_trans hG5 (grown_of_below hba _); have hk5 := kT5.lt; refine step_append_held _ (by rfl) _ _ 24 (by rfl) (w.heap.size + 1) 37 j0 (.slice none 0 0) 1 24 Try.underlying24 hj hy0 hy1 hy2 rfl (by decide) (.slice o R.length c) _ _ (by rfl) (World.ownsRow.alloc hO6.outer _) _ 1 1 [.slice (some ⟨w5.heap.size, 0, none⟩) 2 2] (by rfl) rfl (World.news_of_block (cs := #[.slice (some ⟨w5.heap.size, 0, none⟩) 2 2]) (t := 37) (fr := (0, 0)) (heap_new_at (by simp))) (by intro u hu; simp at hu; subst hu; rfl) (by unfold maxLen; omega) (by omega) (by simp; omega) ?_; intro v7 w7 hown _ hgrow hfr; obtain ⟨⟨o7, c7, rfl⟩, s7, t7, kT7, hO7, av7, hc7, hG7, hoth, hblk⟩ := tab_snocG (nC := 2) (C := [1, x]) rfl hO6 (hI6.based (show w.heap.size + 1 ≤ w5.heap.size by omega)) ap6 kT6 av (fun e9 => by simp [Value.ownBlock] at e9; omega) hc6 hG6 (Nat.le_succ _) (show w.heap.size ≤ k6 by omega) (show g < k6 by omega) hown hgrow hfr; have kZ7 := hblk _ _ _ kZ6 (show w.heap.size ≠ k6 by omega) (fun e => by have := (World.ownsRow.lt hO6.outer _ e).1; omega); clear hown hgrow hfr hblk hoth)
        | fail)
      all_goals
        have HL7 : Hid (∀ j, j < (R ++ [[1, x]]).length → (row (R ++ [[1, x]]) j).length ≤ 5) := fun j hj => by
          by_cases h : j < R.length
          · rw [row_append_lt h]; exact HLn.out j h
          · have : j = R.length := by simp at hj; omega
            rw [this, row_append_end]; simp
        have hO8 := hO7
        clear hO7 s7 t7 q5 q5a q5b n1 n1d n1a n1b hL
        generalize w7.setCell ⟨k6, 1, none⟩ (.slice o7 (R.length + 1) c7) = w8 at *
        have r0 := kT7.cell 0 (.int .i64 N) rfl
        have r1 := kT7.cell 1 (.slice o7 (R.length + 1) c7) rfl
        have z0 := kZ7.cell 0 (.int .i64 0) rfl
        have z1 := kZ7.cell 1 (.slice none 0 0) rfl
        have f0 := kZ7.free 0
        have f1 := kZ7.free 1
        have k2 : Blk _ w.heap.size #[.int .i64 N, .slice o7 (R.length + 1) c7] 26 := (kZ7.set 0 (.int .i64 N)).set 1 (.slice o7 (R.length + 1) c7)
        have q0 := k2.cell 0 (.int .i64 N) rfl
        have q1 := k2.cell 1 (.slice o7 (R.length + 1) c7) rfl
        go_wp2
        refine bodyPost_ret (v := .agg #[.int .i64 N, .slice o7 (R.length + 1) c7]) (by simp only [results, Try.results69]; simp [go_sem, q0, q1]) rfl ?_
        have hl7 : R.length + 1 = (R ++ [[1, x]]).length := by simp
        refine ⟨N, o7, c7, xs ++ [.slice (some ⟨w5.heap.size, 0, none⟩) 2 2], R ++ [[1, x]], by rw [← hl7], ?_, ⟨by simp; omega, HL7.out⟩, (hc7.set (j := 0) (v := .int .i64 N) hlt).set (j := 1) (v := .slice o7 (R.length + 1) c7) hlt, grown_new (j := 1) (v := .slice o7 (R.length + 1) c7) (grown_new (j := 0) (v := .int .i64 N) hG7 (Nat.le_refl _)) (Nat.le_refl _)⟩
        rw [← hl7]
        exact ((hO8.far_set 0 (.int .i64 N) (Nat.lt_succ_self _)).far_set 1 (.slice o7 (R.length + 1) c7) (Nat.lt_succ_self _)).based (Nat.le_succ _)
    · skip
      have r0 := kT.cell 0 (.int .i64 N) rfl
      have r1 := kT.cell 1 (.slice o R.length c) rfl
      have z0 := kZ.cell 0 (.int .i64 0) rfl
      have z1 := kZ.cell 1 (.slice none 0 0) rfl
      have f0 := kZ.free 0
      have f1 := kZ.free 1
      have k2 : Blk _ w.heap.size #[.int .i64 N, .slice o R.length c] 26 := (kZ.set 0 (.int .i64 N)).set 1 (.slice o R.length c)
      have q0 := k2.cell 0 (.int .i64 N) rfl
      have q1 := k2.cell 1 (.slice o R.length c) rfl
      go_wp2
      refine bodyPost_ret (v := .agg #[.int .i64 N, .slice o R.length c]) (by simp only [results, Try.results69]; simp [go_sem, q0, q1]) rfl ?_
      exact ⟨N, o, c, xs, R, rfl, ((hO.far_set 0 (.int .i64 N) (Nat.lt_succ_self _)).far_set 1 (.slice o R.length c) (Nat.lt_succ_self _)).based (Nat.le_succ _), ⟨by omega, HLn.out⟩, (hc3.set (j := 0) (v := .int .i64 N) hlt).set (j := 1) (v := .slice o R.length c) hlt, grown_new (j := 1) (v := .slice o R.length c) (grown_new (j := 0) (v := .int .i64 N) hG (Nat.le_refl _)) (Nat.le_refl _)⟩
set_option maxHeartbeats 3200000 in
theorem c_l4Draw (g : Nat) (w : World) (hc : Cur w g) :
    Calls Try.prog 49 #[.pointer (some ⟨g, 0, none⟩)] w fun e w' => ∃ (n m : Int) (o : Option Addr) (c : Nat) (xs : List Value) (R : List (List Int)), e = .returned (.tuple #[.agg #[.int .i64 n, .slice o R.length c], .int .i64 m]) ∧ OwnRows w' w.heap.size (.slice o R.length c) xs R ∧ (R.length ≤ 13 ∧ ∀ j, j < R.length → (row R j).length ≤ 5) ∧ Cur w' g ∧ w.grownBy w' (some g) := by
  obtain ⟨i0, hi, hz0, hz1, hz2⟩ := info_parts info_int
  obtain ⟨j0, hj, hy0, hy1, hy2⟩ := info_parts info_ints
  have hlt := hc.lt
  have kZ := Blk.new w #[.int .i64 0, .slice none 0 0] 26
  have hG := grown_of_below ((Below.refl w.heap.size w).alloc (Nat.le_refl _) (.cells #[.int .i64 0, .slice none 0 0] 26)) (some g)
  replace hc := cur_alloc hc (.cells #[.int .i64 0, .slice none 0 0] 26)
  go_enter Try.func49, Try.ntmps49
  go_wp2_with fail
  refine (c_l3Table g _ hc).mono ?_
  rintro e w1 ⟨N, o, c, xs, R, rfl, hO, ⟨_, _, hRl, hlen⟩, hc1, hg⟩
  have HLn : Hid (∀ j, j < R.length → (row R j).length ≤ 5) := hlen
  clear hlen
  simp only [World.size_alloc] at hO
  replace kZ := kZ.cur hg (show w.heap.size ≠ g by omega)
  replace hG := grown_trans hG hg
  clear hc hg
  have kT := Blk.new w1 #[.int .i64 N, .slice o R.length c] 26
  have hz := kZ.lt
  have av : Avoid w1.heap.size (.slice o R.length c) xs := fun y hy e => by
    have := hO.old (Nat.le_refl _) y hy _ e
    omega
  have hba := (Below.refl w1.heap.size w1).alloc (Nat.le_refl _) (.cells #[.int .i64 N, .slice o R.length c] 26)
  replace kZ := kZ.keep hba
  replace hO := hO.keep hba
  replace hc1 := hc1.keep hba
  replace hG := grown_trans hG (grown_of_below hba _)
  clear hba
  go_upto_region 2 with fail
  generalize w1.alloc (.cells #[.int .i64 N, .slice o R.length c] 26) = w2 at *
  obtain ⟨k6, hk6⟩ : ∃ k, w1.heap.size = k := ⟨_, rfl⟩
  rw [hk6] at kT hz av
  simp only [hk6]
  clear hk6
  go_wp2_with fail
  refine (c_l1Once g 14 (by omega) _ hc1).mono ?_
  rintro e w3 ⟨t, rfl, hc3, hg⟩
  replace kZ := kZ.cur hg (show w.heap.size ≠ g by omega)
  replace kT := kT.cur hg (show k6 ≠ g by omega)
  replace hO := hO.cur hg (show g < w.heap.size + 1 by omega)
  replace hG := grown_trans hG hg
  clear hc1 hg
  have hk6 := kT.lt
  cases t
  · skip
    go_wp2_with fail
    refine (c_l1Below g 2 (by omega) _ hc3).mono ?_
    rintro e w5 ⟨m, rfl, _, _, _, hc5, hg⟩
    replace kZ := kZ.cur hg (show w.heap.size ≠ g by omega)
    replace kT := kT.cur hg (show k6 ≠ g by omega)
    replace hO := hO.cur hg (show g < w.heap.size + 1 by omega)
    replace hG := grown_trans hG hg
    clear hc3 hg
    go_wp2_with fail
    refine (c_l1Once g 20 (by omega) _ hc5).mono ?_
    rintro e w6 ⟨t, rfl, hc6, hg⟩
    replace kZ := kZ.cur hg (show w.heap.size ≠ g by omega)
    replace kT := kT.cur hg (show k6 ≠ g by omega)
    replace hO := hO.cur hg (show g < w.heap.size + 1 by omega)
    replace hG := grown_trans hG hg
    clear hc5 hg
    cases t
    · skip
      have r0 := kT.cell 0 (.int .i64 N) rfl
      have r1 := kT.cell 1 (.slice o R.length c) rfl
      have z0 := kZ.cell 0 (.int .i64 0) rfl
      have z1 := kZ.cell 1 (.slice none 0 0) rfl
      have f0 := kZ.free 0
      have f1 := kZ.free 1
      have k2 : Blk _ w.heap.size #[.int .i64 N, .slice o R.length c] 26 := (kZ.set 0 (.int .i64 N)).set 1 (.slice o R.length c)
      have q0 := k2.cell 0 (.int .i64 N) rfl
      have q1 := k2.cell 1 (.slice o R.length c) rfl
      go_wp2
      refine bodyPost_ret (v := .tuple #[.agg #[.int .i64 N, .slice o R.length c], .int .i64 m]) (by simp only [results, Try.results49]; simp [go_sem, q0, q1]) rfl ?_
      exact ⟨N, m, o, c, xs, R, rfl, ((hO.far_set 0 (.int .i64 N) (Nat.lt_succ_self _)).far_set 1 (.slice o R.length c) (Nat.lt_succ_self _)).based (Nat.le_succ _), ⟨by omega, HLn.out⟩, (hc6.set (j := 0) (v := .int .i64 N) hlt).set (j := 1) (v := .slice o R.length c) hlt, grown_new (j := 1) (v := .slice o R.length c) (grown_new (j := 0) (v := .int .i64 N) hG (Nat.le_refl _)) (Nat.le_refl _)⟩
    · have hL := fun T => lit_ints w6 #[.int .i64 (-1), .int .i64 2] [-1, 2] (by simp) (fun k hk => by match k, hk with | 0, _ => rfl | 1, _ => rfl) T
      have hlt6 := hc6.lt
      go_wp2_with fail
      refine (c_l1PickInt g _ 2 [-1, 2] (by simp) (by simp) _ (cur_alloc hc6 _) (hL _) (fun a e => by injection e with e; subst e; simp; omega)).mono ?_
      rintro e w7 ⟨m2, rfl, _, hc7, hg⟩
      replace hg := grown_alloc hg
      replace kZ := kZ.cur hg (show w.heap.size ≠ g by omega)
      replace kT := kT.cur hg (show k6 ≠ g by omega)
      replace hO := hO.cur hg (show g < w.heap.size + 1 by omega)
      replace hG := grown_trans hG hg
      clear hc6 hg hL
      have r0 := kT.cell 0 (.int .i64 N) rfl
      have r1 := kT.cell 1 (.slice o R.length c) rfl
      have z0 := kZ.cell 0 (.int .i64 0) rfl
      have z1 := kZ.cell 1 (.slice none 0 0) rfl
      have f0 := kZ.free 0
      have f1 := kZ.free 1
      have k2 : Blk _ w.heap.size #[.int .i64 N, .slice o R.length c] 26 := (kZ.set 0 (.int .i64 N)).set 1 (.slice o R.length c)
      have q0 := k2.cell 0 (.int .i64 N) rfl
      have q1 := k2.cell 1 (.slice o R.length c) rfl
      go_wp2
      refine bodyPost_ret (v := .tuple #[.agg #[.int .i64 N, .slice o R.length c], .int .i64 m2]) (by simp only [results, Try.results49]; simp [go_sem, q0, q1]) rfl ?_
      exact ⟨N, m2, o, c, xs, R, rfl, ((hO.far_set 0 (.int .i64 N) (Nat.lt_succ_self _)).far_set 1 (.slice o R.length c) (Nat.lt_succ_self _)).based (Nat.le_succ _), ⟨by omega, HLn.out⟩, (hc7.set (j := 0) (v := .int .i64 N) hlt).set (j := 1) (v := .slice o R.length c) hlt, grown_new (j := 1) (v := .slice o R.length c) (grown_new (j := 0) (v := .int .i64 N) hG (Nat.le_refl _)) (Nat.le_refl _)⟩
  · go_wp2_with fail
    refine (c_l3Any g _ hc3).mono ?_
    rintro e w4 ⟨n, o2, c2, xs2, R2, rfl, hO2, ⟨hRl2, hlen2⟩, hc4, hg⟩
    have HLn2 : Hid (∀ j, j < R2.length → (row R2 j).length ≤ 5) := hlen2
    clear hlen2
    replace kZ := kZ.cur hg (show w.heap.size ≠ g by omega)
    replace kT := kT.cur hg (show k6 ≠ g by omega)
    replace hG := grown_trans hG hg
    have av2 : Avoid k6 (.slice o2 R2.length c2) xs2 := fun y hy e => by
      rcases hy with rfl | hy
      · have := (World.ownsRow.lt hO2.outer _ e).1; omega
      · have := hO2.lowS (Nat.le_refl _) y hy _ e; omega
    replace hO2 := hO2.based (show w.heap.size + 1 ≤ w3.heap.size by omega)
    clear hc3 hg hO HLn hRl av
    have n0 := kT.cell 0 (.int .i64 N) rfl
    have n1 := kT.cell 1 (.slice o R.length c) rfl
    have g0 := kT.free 0
    have g1 := kT.free 1
    have kT2 : Blk _ k6 #[.int .i64 n, .slice o2 R2.length c2] 26 := (kT.set 0 (.int .i64 n)).set 1 (.slice o2 R2.length c2)
    have kZ2 := (kZ.far ⟨k6, 0, none⟩ (.int .i64 n) (show w.heap.size ≠ k6 by omega)).far ⟨k6, 1, none⟩ (.slice o2 R2.length c2) (show w.heap.size ≠ k6 by omega)
    have hO3 := ownRows_setAvoid (ownRows_setAvoid hO2 av2 0 (.int .i64 n)) av2 1 (.slice o2 R2.length c2)
    have hc5 := (hc4.set (j := 0) (v := .int .i64 n) (show g < k6 by omega)).set (j := 1) (v := .slice o2 R2.length c2) (show g < k6 by omega)
    have hG2 := grown_new (j := 1) (v := .slice o2 R2.length c2) (grown_new (j := 0) (v := .int .i64 n) hG (show w.heap.size ≤ k6 by omega)) (show w.heap.size ≤ k6 by omega)
    clear kZ hO2 hc4 hG
    have kT1 := kT
    clear kT
    have kT := kT2
    have kZ := kZ2
    have hO := hO3
    have hc3 := hc5
    have hG := hG2
    clear kT2 kZ2 hO3 hc5 hG2
    go_wp2_with fail
    skip
    refine (c_l1Below g 2 (by omega) _ hc3).mono ?_
    rintro e w5 ⟨m, rfl, _, _, _, hc5, hg⟩
    replace kZ := kZ.cur hg (show w.heap.size ≠ g by omega)
    replace kT := kT.cur hg (show k6 ≠ g by omega)
    replace hO := hO.cur hg (show g < w.heap.size + 1 by omega)
    replace hG := grown_trans hG hg
    clear hc3 hg
    go_wp2_with fail
    refine (c_l1Once g 20 (by omega) _ hc5).mono ?_
    rintro e w6 ⟨t, rfl, hc6, hg⟩
    replace kZ := kZ.cur hg (show w.heap.size ≠ g by omega)
    replace kT := kT.cur hg (show k6 ≠ g by omega)
    replace hO := hO.cur hg (show g < w.heap.size + 1 by omega)
    replace hG := grown_trans hG hg
    clear hc5 hg
    cases t
    · skip
      have r0 := kT.cell 0 (.int .i64 n) rfl
      have r1 := kT.cell 1 (.slice o2 R2.length c2) rfl
      have z0 := kZ.cell 0 (.int .i64 0) rfl
      have z1 := kZ.cell 1 (.slice none 0 0) rfl
      have f0 := kZ.free 0
      have f1 := kZ.free 1
      have k2 : Blk _ w.heap.size #[.int .i64 n, .slice o2 R2.length c2] 26 := (kZ.set 0 (.int .i64 n)).set 1 (.slice o2 R2.length c2)
      have q0 := k2.cell 0 (.int .i64 n) rfl
      have q1 := k2.cell 1 (.slice o2 R2.length c2) rfl
      go_wp2
      refine bodyPost_ret (v := .tuple #[.agg #[.int .i64 n, .slice o2 R2.length c2], .int .i64 m]) (by simp only [results, Try.results49]; simp [go_sem, q0, q1]) rfl ?_
      exact ⟨n, m, o2, c2, xs2, R2, rfl, ((hO.far_set 0 (.int .i64 n) (Nat.lt_succ_self _)).far_set 1 (.slice o2 R2.length c2) (Nat.lt_succ_self _)).based (Nat.le_succ _), ⟨by omega, HLn2.out⟩, (hc6.set (j := 0) (v := .int .i64 n) hlt).set (j := 1) (v := .slice o2 R2.length c2) hlt, grown_new (j := 1) (v := .slice o2 R2.length c2) (grown_new (j := 0) (v := .int .i64 n) hG (Nat.le_refl _)) (Nat.le_refl _)⟩
    · have hL := fun T => lit_ints w6 #[.int .i64 (-1), .int .i64 2] [-1, 2] (by simp) (fun k hk => by match k, hk with | 0, _ => rfl | 1, _ => rfl) T
      have hlt6 := hc6.lt
      go_wp2_with fail
      refine (c_l1PickInt g _ 2 [-1, 2] (by simp) (by simp) _ (cur_alloc hc6 _) (hL _) (fun a e => by injection e with e; subst e; simp; omega)).mono ?_
      rintro e w7 ⟨m2, rfl, _, hc7, hg⟩
      replace hg := grown_alloc hg
      replace kZ := kZ.cur hg (show w.heap.size ≠ g by omega)
      replace kT := kT.cur hg (show k6 ≠ g by omega)
      replace hO := hO.cur hg (show g < w.heap.size + 1 by omega)
      replace hG := grown_trans hG hg
      clear hc6 hg hL
      have r0 := kT.cell 0 (.int .i64 n) rfl
      have r1 := kT.cell 1 (.slice o2 R2.length c2) rfl
      have z0 := kZ.cell 0 (.int .i64 0) rfl
      have z1 := kZ.cell 1 (.slice none 0 0) rfl
      have f0 := kZ.free 0
      have f1 := kZ.free 1
      have k2 : Blk _ w.heap.size #[.int .i64 n, .slice o2 R2.length c2] 26 := (kZ.set 0 (.int .i64 n)).set 1 (.slice o2 R2.length c2)
      have q0 := k2.cell 0 (.int .i64 n) rfl
      have q1 := k2.cell 1 (.slice o2 R2.length c2) rfl
      go_wp2
      refine bodyPost_ret (v := .tuple #[.agg #[.int .i64 n, .slice o2 R2.length c2], .int .i64 m2]) (by simp only [results, Try.results49]; simp [go_sem, q0, q1]) rfl ?_
      exact ⟨n, m2, o2, c2, xs2, R2, rfl, ((hO.far_set 0 (.int .i64 n) (Nat.lt_succ_self _)).far_set 1 (.slice o2 R2.length c2) (Nat.lt_succ_self _)).based (Nat.le_succ _), ⟨by omega, HLn2.out⟩, (hc7.set (j := 0) (v := .int .i64 n) hlt).set (j := 1) (v := .slice o2 R2.length c2) hlt, grown_new (j := 1) (v := .slice o2 R2.length c2) (grown_new (j := 0) (v := .int .i64 n) hG (Nat.le_refl _)) (Nat.le_refl _)⟩
end Go.Proofs.Ytcenndlbhgfdfaa
namespace Go.Proofs.Ytcenndlbhgfdfaa
open Go.RowKit
set_option linter.unusedVariables false
set_option maxRecDepth 100000

def DrawsTab (f : FuncId) (oa : Option Addr) (mc cap : Nat) (w : World) : Prop :=
  Calls Try.prog f #[.slice oa mc cap] w fun e w' => ∃ (n m : Int) (o : Option Addr) (c : Nat) (xs : List Value) (R : List (List Int)), e = .returned (.tuple #[.agg #[.int .i64 n, .slice o R.length c], .int .i64 m]) ∧ OwnRows w' w.heap.size (.slice o R.length c) xs R ∧ (R.length ≤ 13 ∧ ∀ j, j < R.length → (row R j).length ≤ 5) ∧ Below w.heap.size w w'
def DrawsTabX (f : FuncId) (oa : Option Addr) (mc cap : Nat) (w : World) : Prop :=
  Calls Try.prog f #[.slice oa mc cap] w fun e w' => ∃ (n m : Int) (o : Option Addr) (c : Nat) (xs : List Value) (R : List (List Int)) (x : Int), e = .returned (.tuple #[.agg #[.int .i64 n, .slice o R.length c], .int .i64 m, .int .i64 x]) ∧ OwnRows w' w.heap.size (.slice o R.length c) xs R ∧ (R.length ≤ 13 ∧ ∀ j, j < R.length → (row R j).length ≤ 5) ∧ Below w.heap.size w w'
end Go.Proofs.Ytcenndlbhgfdfaa
namespace Go.Proofs.Ytcenndlbhgfdfaa
open Go.RowKit
set_option linter.unusedVariables false
set_option maxRecDepth 100000

def DrawsTabP (f : FuncId) (oa : Option Addr) (mc cap : Nat) (w : World) : Prop :=
  Calls Try.prog f #[.slice oa mc cap] w fun e w' => ∃ (n m : Int) (o : Option Addr) (c : Nat) (xs : List Value) (R : List (List Int)) (l r : Int), e = .returned (.tuple #[.agg #[.int .i64 n, .slice o R.length c], .int .i64 m, .agg #[.int .i64 l, .int .i64 r]]) ∧ OwnRows w' w.heap.size (.slice o R.length c) xs R ∧ (R.length ≤ 13 ∧ ∀ j, j < R.length → (row R j).length ≤ 5) ∧ Below w.heap.size w w'
set_option maxHeartbeats 12800000 in
theorem c_l6Draw (oa) (mc cap : Nat) (hm : mc ≤ 1048576) (w : World) (hB : BytesAt w oa mc) : DrawsTabP 19 oa mc cap w := by
  unfold DrawsTabP
  have hb := bel2 w (.cells #[.int .i64 0, .slice none 0 0] 26) (.cells #[.int .i64 0, .int .i64 0] 28)
  have kZ := (Blk.new w #[.int .i64 0, .slice none 0 0] 26).alloc (.cells #[.int .i64 0, .int .i64 0] 28)
  have kD := Blk.new (w.alloc (.cells #[.int .i64 0, .slice none 0 0] 26)) #[.int .i64 0, .int .i64 0] 28
  simp only [World.size_alloc] at kD
  go_enter Try.func19, Try.ntmps19
  go_wp2_with fail
  refine (c_l1New oa mc cap hm _ (hB.keep hb)).mono ?_
  rintro e w1 ⟨rfl, hc1, hbn⟩
  replace kZ := kZ.keep hbn
  replace kD := kD.keep hbn
  replace hb := bel_to hb hbn
  simp only [World.size_alloc] at hc1 ⊢
  clear hbn
  have hz := kD.lt
  go_wp2_with fail
  refine (c_l4Draw _ _ hc1).mono ?_
  rintro e w2 ⟨n, m, o, c, xs, R, rfl, hO, ⟨hRl, hlen⟩, hc2, hg⟩
  have HLn : Hid (∀ j, j < R.length → (row R j).length ≤ 5) := hlen
  have HLR : Hid (∀ j, j < R.length → (row R j).length ≤ Room) := fun j hj => Nat.le_trans (hlen j hj) (by unfold Room; omega)
  have hRR : R.length ≤ Room := by unfold Room; omega
  clear hlen
  have hlt1 := hc1.lt
  have hsz := hg.size
  replace hb := below_cur hb hg (by omega)
  replace kZ := kZ.cur hg (show w.heap.size ≠ w.heap.size + 1 + 1 by omega)
  replace kD := kD.cur hg (show w.heap.size + 1 ≠ w.heap.size + 1 + 1 by omega)
  clear hc1 hg
  have kT := Blk.new w2 #[.int .i64 n, .slice o R.length c] 26
  have hba := (Below.refl w2.heap.size w2).alloc (Nat.le_refl _) (.cells #[.int .i64 n, .slice o R.length c] 26)
  replace kZ := kZ.keep hba
  replace kD := kD.keep hba
  replace hO := hO.keep hba
  replace hc2 := hc2.keep hba
  replace hb := bel_to hb hba
  clear hba
  go_upto_region 3 with fail
  generalize w2.alloc (.cells #[.int .i64 n, .slice o R.length c] 26) = w3 at *
  obtain ⟨k6, hk6⟩ : ∃ k, w2.heap.size = k := ⟨_, rfl⟩
  rw [hk6] at kT hsz
  simp only [hk6]
  clear hk6
  have n0 := kT.cell 0 (.int .i64 n) rfl
  have n1 := kT.cell 1 (.slice o R.length c) rfl
  have n0d := kT.drew.cell 0 (.int .i64 n) rfl
  have n1d := kT.drew.cell 1 (.slice o R.length c) rfl
  go_wp2_with fail
  go_region_law (first
    | ((try go_simp); refine (c_l6Any _ n _ (by first | exact hc2 | exact hc2.keep (Below.refl _ _).drew)).mono ?_; rintro e w9 ⟨l, r, rfl, hc9, hg⟩; have hg3 : w3.grownBy w9 (some (w.heap.size + 1 + 1)) := (by first | exact hg | exact drew_grown hg); have kT9 := kT.cur hg3 (show k6 ≠ w.heap.size + 1 + 1 by omega); have kZ9 := kZ.cur hg3 (show w.heap.size ≠ w.heap.size + 1 + 1 by omega); have kD9 := kD.cur hg3 (show w.heap.size + 1 ≠ w.heap.size + 1 + 1 by omega); have hO9 := hO.cur hg3 (show w.heap.size + 1 + 1 < w1.heap.size by omega); have hb9 := below_cur hb hg3 (by omega); have p0 := kT9.cell 0 (.int .i64 n) rfl; have p1 := kT9.cell 1 (.slice o R.length c) rfl; have z0 := kZ9.cell 0 (.int .i64 0) rfl; have z1 := kZ9.cell 1 (.slice none 0 0) rfl; have f0 := kZ9.free 0; have f1 := kZ9.free 1; have kD8 := (kD9.far ⟨w.heap.size, 0, none⟩ (.int .i64 n) (by simp)).far ⟨w.heap.size, 1, none⟩ (.slice o R.length c) (by simp); have y0 := kD8.cell 0 (.int .i64 0) rfl; have y1 := kD8.cell 1 (.int .i64 0) rfl; have g0 := kD8.free 0; have g1 := kD8.free 1; clear hg hg3)
    | fail)
  all_goals
    have k2 : Blk _ w.heap.size #[.int .i64 n, .slice o R.length c] 26 := (((kZ9.set 0 (.int .i64 n)).set 1 (.slice o R.length c)).far ⟨w.heap.size + 1, 0, none⟩ (.int .i64 l) (by simp)).far ⟨w.heap.size + 1, 1, none⟩ (.int .i64 r) (by simp)
    have k3 : Blk _ (w.heap.size + 1) #[.int .i64 l, .int .i64 r] 28 := (((kD9.far ⟨w.heap.size, 0, none⟩ (.int .i64 n) (by simp)).far ⟨w.heap.size, 1, none⟩ (.slice o R.length c) (by simp)).set 0 (.int .i64 l)).set 1 (.int .i64 r)
    have q0 := k2.cell 0 (.int .i64 n) rfl
    have q1 := k2.cell 1 (.slice o R.length c) rfl
    have q2 := k3.cell 0 (.int .i64 l) rfl
    have q3 := k3.cell 1 (.int .i64 r) rfl
    go_wp2
    refine bodyPost_ret (v := .tuple #[.agg #[.int .i64 n, .slice o R.length c], .int .i64 m, .agg #[.int .i64 l, .int .i64 r]]) (by simp only [results, Try.results19]; simp [go_sem, q0, q1, q2, q3]) rfl ?_
    exact ⟨n, m, o, c, xs, R, l, r, rfl, ((((hO9.far_set 0 (.int .i64 n) (show w.heap.size < w1.heap.size by omega)).far_set 1 (.slice o R.length c) (show w.heap.size < w1.heap.size by omega)).far_set 0 (.int .i64 l) (show w.heap.size + 1 < w1.heap.size by omega)).far_set 1 (.int .i64 r) (show w.heap.size + 1 < w1.heap.size by omega)).based (by omega), ⟨hRl, HLn.out⟩, bel_set2 (bel_set2 hb9 (Nat.le_refl _) _ _) (Nat.le_succ _) _ _⟩
set_option maxHeartbeats 3200000 in
theorem c_DrawRowsToRemove (oa) (mc cap : Nat) (hm : mc ≤ 1048576) (w : World) (hB : BytesAt w oa mc) : DrawsTabP 5 oa mc cap w := by
  unfold DrawsTabP
  have hb := bel2 w (.cells #[.int .i64 0, .slice none 0 0] 26) (.cells #[.int .i64 0, .int .i64 0] 28)
  have kZ := (Blk.new w #[.int .i64 0, .slice none 0 0] 26).alloc (.cells #[.int .i64 0, .int .i64 0] 28)
  have kD := Blk.new (w.alloc (.cells #[.int .i64 0, .slice none 0 0] 26)) #[.int .i64 0, .int .i64 0] 28
  simp only [World.size_alloc] at kD
  go_enter Try.func5, Try.ntmps5
  go_wp2_with fail
  have H := c_l6Draw oa mc cap hm _ (hB.keep hb)
  unfold DrawsTabP at H
  refine H.mono ?_
  clear H
  rintro e w2 ⟨n, m, o, c, xs, R, l, r, rfl, hO, ⟨hRl, hlen⟩, hbn⟩
  have HLn : Hid (∀ j, j < R.length → (row R j).length ≤ 5) := hlen
  clear hlen
  replace kZ := kZ.keep hbn
  replace kD := kD.keep hbn
  replace hb := bel_to hb hbn
  simp only [World.size_alloc] at hO
  clear hbn
  have hz := kD.lt
  have kT := (Blk.new w2 #[.int .i64 n, .slice o R.length c] 26).alloc (.cells #[.int .i64 l, .int .i64 r] 28)
  have kE := Blk.new (w2.alloc (.cells #[.int .i64 n, .slice o R.length c] 26)) #[.int .i64 l, .int .i64 r] 28
  simp only [World.size_alloc] at kE
  have hba := bel2 w2 (.cells #[.int .i64 n, .slice o R.length c] 26) (.cells #[.int .i64 l, .int .i64 r] 28)
  replace kZ := kZ.keep hba
  replace kD := kD.keep hba
  replace hO := hO.keep hba
  replace hb := bel_to hb hba
  clear hba
  have n0 := kT.cell 0 (.int .i64 n) rfl
  have n1 := kT.cell 1 (.slice o R.length c) rfl
  have e0 := kE.cell 0 (.int .i64 l) rfl
  have e1 := kE.cell 1 (.int .i64 r) rfl
  have z0 := kZ.cell 0 (.int .i64 0) rfl
  have z1 := kZ.cell 1 (.slice none 0 0) rfl
  have f0 := kZ.free 0
  have f1 := kZ.free 1
  have y0 := kD.cell 0 (.int .i64 0) rfl
  have y1 := kD.cell 1 (.int .i64 0) rfl
  have g0 := kD.free 0
  have g1 := kD.free 1
  have k2 : Blk _ w.heap.size #[.int .i64 n, .slice o R.length c] 26 := (((kZ.set 0 (.int .i64 n)).set 1 (.slice o R.length c)).far ⟨w.heap.size + 1, 0, none⟩ (.int .i64 l) (by simp)).far ⟨w.heap.size + 1, 1, none⟩ (.int .i64 r) (by simp)
  have k3 : Blk _ (w.heap.size + 1) #[.int .i64 l, .int .i64 r] 28 := (((kD.far ⟨w.heap.size, 0, none⟩ (.int .i64 n) (by simp)).far ⟨w.heap.size, 1, none⟩ (.slice o R.length c) (by simp)).set 0 (.int .i64 l)).set 1 (.int .i64 r)
  have kD8 := (kD.far ⟨w.heap.size, 0, none⟩ (.int .i64 n) (by simp)).far ⟨w.heap.size, 1, none⟩ (.slice o R.length c) (by simp)
  have y0f := kD8.cell 0 (.int .i64 0) rfl
  have y1f := kD8.cell 1 (.int .i64 0) rfl
  have g0f := kD8.free 0
  have g1f := kD8.free 1
  have q0 := k2.cell 0 (.int .i64 n) rfl
  have q1 := k2.cell 1 (.slice o R.length c) rfl
  have q2 := k3.cell 0 (.int .i64 l) rfl
  have q3 := k3.cell 1 (.int .i64 r) rfl
  go_wp2_with fail
  all_goals (try go_region_law (fail))
  all_goals go_wp2
  all_goals refine bodyPost_ret (v := .tuple #[.agg #[.int .i64 n, .slice o R.length c], .int .i64 m, .agg #[.int .i64 l, .int .i64 r]]) (by simp only [results, Try.results5]; simp [go_sem, q0, q1, q2, q3]) rfl ?_
  all_goals exact ⟨n, m, o, c, xs, R, l, r, rfl, OwnRows.keep (((((hO.far_set 0 (.int .i64 n) (show w.heap.size < w.heap.size + 1 + 1 by omega)).far_set 1 (.slice o R.length c) (show w.heap.size < w.heap.size + 1 + 1 by omega)).far_set 0 (.int .i64 l) (show w.heap.size + 1 < w.heap.size + 1 + 1 by omega)).far_set 1 (.int .i64 r) (show w.heap.size + 1 < w.heap.size + 1 + 1 by omega)).based (by omega)) (Below.refl _ _).drew, ⟨hRl, HLn.out⟩, (bel_set2 (bel_set2 hb (Nat.le_refl _) _ _) (Nat.le_succ _) _ _).drew⟩
end Go.Proofs.Ytcenndlbhgfdfaa
namespace Go.Proofs.Ytcenndlbhgfdfaa
open Go.RowKit
set_option linter.unusedVariables false
set_option maxRecDepth 100000

def bs (l : List UInt8) : ByteArray := ⟨l.toArray⟩
theorem bs_app (a b : List UInt8) : bs a ++ bs b = bs (a ++ b) := by
  apply ByteArray.ext
  simp [bs]
theorem bs_size (a : List UInt8) : (bs a).size = a.length := by simp [bs, ByteArray.size]
theorem bs_list (a : List UInt8) : (bs a).toList = a := by simp [bs]
def ltr (c : Int) : UInt8 := UInt8.ofNat (65 + c.toNat)
def ltrsTo (x : Int) (k : Nat) : List UInt8 := (membersUpTo x k).map ltr
def noneL : List UInt8 := [110, 111, 110, 101]
def fmtA (x : Int) : List UInt8 := if stB x then (if x = 0 then noneL else ltrsTo x 5) else []
theorem ltrs_succ (x : Int) (k : Nat) : ltrsTo x (k + 1) = ltrsTo x k ++ (if hasc x k then [ltr k] else []) := by
  unfold ltrsTo
  rw [membersUpTo_succ, List.map_append]
  split <;> rfl
theorem ltrs_len (x : Int) (k : Nat) : (ltrsTo x k).length ≤ k := by unfold ltrsTo; rw [List.length_map]; exact membersUpTo_le x k
theorem ltrs_nil {x : Int} (hx : St x) : (ltrsTo x 5 == []) = decide (x = 0) := by
  obtain ⟨n, hn, rfl⟩ := st_nat hx
  have h : ∀ n < 32, (ltrsTo (n : Nat) 5 == []) = decide (((n : Nat) : Int) = 0) := by decide +kernel
  exact h n hn
theorem emp_eq (l : List UInt8) : l.isEmpty = (l == []) := by cases l <;> rfl
theorem abc_at : ∀ k < 5, ((ByteArray.mk #[65, 66, 67, 68, 69]).extract k (k + 1)) = bs [ltr ((k : Nat) : Int)] := by
  intro k hk
  apply ByteArray.ext
  match k, hk with
  | 0, _ => rfl
  | 1, _ => rfl
  | 2, _ => rfl
  | 3, _ => rfl
  | 4, _ => rfl
theorem run_sadd {P : Program} (a b : List UInt8) (h : a.length + b.length ≤ 1000000000) (w : World) : (Op.stringOp .add (bs a) (bs b)).run P w = .ok (.string (bs (a ++ b))) w := by
  simp only [Op.stringOp, bs_size, bs_app]
  rw [if_neg (by unfold IntKind.max; simp [IntKind.bits, IntKind.signed]; omega)]
  rfl
theorem c_specFormatAttributes (x : Int) (w : World) : Ans Try.prog 32 #[.int .i64 x] w (.string (bs (fmtA x))) := by
  unfold Ans
  have hb := Below.refl w.heap.size w
  cases hst : stB x
  · have HM : Hid (fmtA x = []) := by unfold fmtA; rw [hst]; rfl
    go_enter Try.func32, Try.ntmps32
    go_wp2_with (first | (go_at_call 59; refine Calls.mono (Ans.eqb (c_l2Valid _ _) hst) ?_; rintro e w1 ⟨rfl, hbn⟩; replace hb := bel_to (w := w) (by first | exact hb | exact hb.alloc hb.size _ | exact (hb.alloc hb.size _).alloc (Nat.le_trans hb.size (by simp)) _ | exact hb.setCell (by simp [hb.size]) _) hbn; clear hbn))
    go_ret
    exact ⟨by rw [HM.out]; rfl, hb⟩
  · have hsx : St x := by simpa [stB] using hst
    have HM : Hid (fmtA x = if x = 0 then noneL else ltrsTo x 5) := by unfold fmtA; rw [hst]; rfl
    have HN : Hid ((ltrsTo x 5 == []) = decide (x = 0)) := ltrs_nil hsx
    go_enter Try.func32, Try.ntmps32
    go_wp2_with (first | (go_at_call 59; refine Calls.mono (Ans.eqb (c_l2Valid _ _) hst) ?_; rintro e w1 ⟨rfl, hbn⟩; replace hb := bel_to (w := w) (by first | exact hb | exact hb.alloc hb.size _ | exact (hb.alloc hb.size _).alloc (Nat.le_trans hb.size (by simp)) _ | exact hb.setCell (by simp [hb.size]) _) hbn; clear hbn))
    go_loopw [3, 4] (fun v i wr => ∃ k : Nat, i = .int .i64 k ∧ k ≤ 5 ∧ v = .string (bs (ltrsTo x k)) ∧ Below w.heap.size w wr) (fun _ i _ => 5 - (intOf i).toNat)
    case atStart => exact ⟨0, rfl, Nat.zero_le _, rfl, by assumption⟩
    case round =>
      obtain ⟨k, rfl, hk, rfl, hb⟩ := hrel
      have HS := ltrs_succ x k
      have hle := ltrs_len x k
      have HS2 : Hid (ltrsTo x (k + 1) = ltrsTo x k ++ (if hasc x k then [ltr k] else [])) := HS
      clear HS
      by_cases hlt : k < 5
      · have hk64 : 0 ≤ (k : Int) ∧ (k : Int) < 64 := by omega
        cases hh : hasc x k
        · have hq : (bits BinOp.and .i64 ((x : Int) / 2 ^ k) 1 == 1) = false := by rw [← hh]; unfold hasc; simp
          go_wp2_with fail
          go_roundw
          case rel => exact ⟨k + 1, by go_num, by omega, by rw [HS2.out, hh]; simp, hb⟩
          case measure => simp [intOf]; omega
        · have hq : (bits BinOp.and .i64 ((x : Int) / 2 ^ k) 1 == 1) = true := by rw [← hh]; unfold hasc; simp
          have hab := abc_at k hlt
          have hsz : ¬ 9223372036854775807 < (bs (ltrsTo x k)).size + (bs [ltr k]).size := by rw [bs_size, bs_size]; simp; omega
          go_wp2_with fail
          go_roundw
          case rel => exact ⟨k + 1, by go_num, by omega, by rw [HS2.out, hh, bs_app]; rfl, hb⟩
          case measure => simp [intOf]; omega
      · have hkk : k = 5 := by omega
        subst hkk
        cases hz : decide (x = 0)
        · have hz0 : Hid (x ≠ 0) := of_decide_eq_false hz
          have hn : (bs (ltrsTo x 5)).toList.isEmpty = false := by rw [bs_list, emp_eq]; exact HN.out.trans hz
          clear hz
          go_wp2_with fail
          go_ret
          exact ⟨by rw [HM.out, if_neg (show ¬ x = 0 from hz0.out)]; rfl, hb⟩
        · have hz0 : Hid (x = 0) := (of_decide_eq_true hz : x = 0)
          have hn : (bs (ltrsTo x 5)).toList.isEmpty = true := by rw [bs_list, emp_eq]; exact HN.out.trans hz
          clear hz
          go_wp2_with fail
          go_ret
          exact ⟨by rw [HM.out, if_pos (show x = 0 from hz0.out)]; rfl, hb⟩
theorem info_byte : (Try.prog.info? 5).map (fun i => (i.zero, i.size, i.bytes)) = some (some (.int .u8 0), 1, 1) := by kernel_rfl
def encU (c : UInt8) : Value := .int .u8 c.toNat
def OwnU (w : World) (base : Nat) (v : Value) (L : List UInt8) : Prop := w.ownsRow base 5 1 v L.length (L.map encU)
theorem OwnU.keep {w w' : World} {base : Nat} {v : Value} {L : List UInt8} (h : OwnU w base v L) (hb : Below w.heap.size w w') : OwnU w' base v L := owns_keep h hb
theorem OwnU.snoc {w : World} {base : Nat} {v : Value} {L : List UInt8} {x : UInt8} (h : w.ownsRow base 5 1 v (L.length + 1) (L.map encU ++ [encU x])) : OwnU w base v (L ++ [x]) := by
  unfold OwnU
  rw [List.length_append, List.map_append]
  exact h
theorem OwnU.empty (w : World) (base : Nat) (hb : base ≤ w.heap.size) : OwnU (w.alloc (.cells #[] 5)) base (.slice (some ⟨w.heap.size, 0, none⟩) 0 0) [] :=
  World.ownsRow_lit w #[] 0 hb (Nat.zero_le _) rfl
theorem OwnU.conv {w : World} {base : Nat} {v : Value} {L : List UInt8} (h : OwnU w base v L) : ∃ oa cap, v = .slice oa L.length cap ∧ ∀ dst, Try.prog.underlying dst = some .string → (convert 22 dst (.slice oa L.length cap)).run Try.prog w = .ok (.string (bs L)) w := by
  obtain ⟨oa, cap, rfl, hc⟩ := owns_cells h
  refine ⟨oa, cap, rfl, fun dst hd => ?_⟩
  by_cases h0 : 0 < L.length
  · obtain ⟨g, rfl, _, _, _, hcell, _⟩ := hc h0
    have := run_convert_bytes_arg (P := Try.prog) w 22 5 Try.underlying22 Try.underlying5 g 0 L.length cap (L.map fun x => (x.toNat : Int)) (by simp) (fun i hi => by
      rw [Nat.zero_add, hcell i (by omega), List.getElem?_map, List.getElem?_eq_getElem hi]
      simp [encU, List.getD, List.getElem?_map, List.getElem?_eq_getElem hi]) dst hd
    rw [this]
    congr 2
    unfold strOfNums bs
    congr 1
    rw [List.map_map]
    congr 1
    conv => rhs; rw [← List.map_id L]
    apply List.map_congr_left
    intro x _
    simp
  · have : L = [] := List.length_eq_zero_iff.1 (by omega)
    subst this
    rcases h.2 with ⟨e, _⟩ | ⟨g, cap', cur, e, _⟩
    · injection e with e1 e2 e3
      subst e1
      exact run_convert_bytes_nil (P := Try.prog) w 22 5 Try.underlying22 Try.underlying5 _ _ dst hd
    · injection e with e1 e2 e3
      subst e1
      exact run_convert_bytes_arg (P := Try.prog) w 22 5 Try.underlying22 Try.underlying5 g 0 0 cap [] rfl (fun i hi => absurd hi (Nat.not_lt_zero _)) dst hd
theorem letter_conv {c : Int} (hc : Co c) : wrap64 (65 + c) % 256 = (ltr c).toNat := by
  obtain ⟨k, hk, rfl⟩ := co_nat hc
  have h : ∀ k < 5, wrap64 (65 + ((k : Nat) : Int)) % 256 = ((ltr ((k : Nat) : Int)).toNat : Int) := by decide +kernel
  exact h k hk
theorem c_FormatAttributes (x : Int) (w : World) : Ans Try.prog 31 #[.int .i64 x] w (.string (bs (fmtA x))) := by
  unfold Ans
  obtain ⟨i0, hi, hz0, hz1, hz2⟩ := info_parts info_byte
  by_cases hx : x = 0
  · subst hx
    go_enter Try.func31, Try.ntmps31
    go_wp2
    go_ret
    exact ⟨rfl, Below.refl _ _⟩
  · have HX : Hid (fmtA x = (membersF x).map ltr) := by
      show _ = _
      unfold fmtA membersF
      split
      · rfl
      · rfl
    have HC : Hid (∀ k, k < (membersF x).length → Co (nth (membersF x) k)) := fun k hk => (members_co _ (List.mem_iff_getElem?.2 ⟨k, nth_eq hk⟩)).1
    have hlen := members_len x
    go_enter Try.func31, Try.ntmps31
    go_wp2_with fail
    have hI := OwnU.empty w w.heap.size (Nat.le_refl _)
    have hb := (Below.refl w.heap.size w).alloc (Nat.le_refl _) (.cells #[] 5)
    refine (c_Members x _).mono ?_
    rintro e w2 ⟨v, rfl, hM, hbM⟩
    obtain ⟨oM, cM, rfl⟩ := hM.shape
    have hMI := hM.ints rfl (by unfold Room; omega)
    replace hI := hI.keep hbM
    replace hb := bel_to (w := w) hb hbM
    have hMb := fun a e => owns_block hM a e
    simp only [World.size_alloc] at hMb
    clear hM hbM
    generalize hMM : membersF x = M at *
    have HM : Hid (membersF x = M) := hMM
    clear hMM
    go_wp2_with fail
    go_loopw [3, 12] (fun v i wr => ∃ k : Nat, i = .int .i64 k ∧ k ≤ M.length ∧ OwnU wr w.heap.size v ((M.take k).map ltr) ∧ IntsAt wr oM M ∧ (∀ a, oM = some a → v.ownBlock ≠ some a.block) ∧ Below w.heap.size w wr) (fun _ i _ => M.length - (intOf i).toNat)
    case atStart => exact ⟨0, rfl, Nat.zero_le _, hI, hMI, fun a e e' => by have h1 := hMb a e; have h2 : w.heap.size = a.block := (by injection e'); omega, hb⟩
    case round =>
      obtain ⟨k, rfl, hk, hI, hMI, hap, hb⟩ := hrel
      clear hMb
      by_cases hlt : k < M.length
      · obtain ⟨b, off, e', hbs, hcell⟩ := hMI.at_ (by omega)
        subst e'
        have hc1 := hcell k hlt
        have hcv := letter_conv (HC.out k hlt)
        have hco := (HC.out k hlt)
        have hne := hap _ rfl
        have HT : Hid ((M.take (k + 1)).map ltr = (M.take k).map ltr ++ [ltr (nth M k)]) := by show _ = _; rw [List.take_add_one, nth_eq hlt]; simp
        have htl : Hid (((M.take k).map ltr).length ≤ 5) := by show _ ≤ _; rw [List.length_map, List.length_take]; omega
        clear hcell hap
        generalize hLL : (M.take k).map ltr = L at *
        clear hLL
        obtain ⟨oL, cL, rfl, _⟩ := owns_cells hI
        go_wp2_with (first | (at_builtin; rw [hcv]; refine wpList_append_fresh rfl _ _ 22 rfl w.heap.size 5 i0 (.int .u8 0) 1 1 Try.underlying22 hi hz0 hz1 hz2 rfl (by decide) _ _ _ rfl (World.ownsRow.alloc hI _) _ 1 1 [encU (ltr (nth M k))] rfl rfl (by intro j u hj; match j, hj with | 0, hj => simp at hj; subst hj; simp [Addr.add, encU]) (by intro u hu; simp at hu; subst hu; rfl) (by have := htl.out; unfold maxLen; omega) (by have := htl.out; omega) (by have := hb.size; simp; omega) ?_; intro v' w1 hown hgrow hfr))
        replace hgrow : (wr.alloc (.cells #[encU (ltr (nth M k))] 5)).grownBy w1 (Value.slice oL L.length cL).ownBlock := hgrow
        replace hfr : Fresh (wr.alloc (.cells #[encU (ltr (nth M k))] 5)) (.slice oL L.length cL) v' := hfr
        have hb2 := (hb.alloc hb.size (.cells #[encU (ltr (nth M k))] 5)).grown hgrow (by have := hb.size; simp; omega) (fun g hg => (World.ownsRow.lt hI g hg).1)
        have hM2 := (hMI.keep ((Below.refl wr.heap.size wr).alloc (Nat.le_refl _) (.cells #[encU (ltr (nth M k))] 5))).grown hgrow (fun a e e' => by injection e with e; subst e; exact hne e'.symm)
        go_roundw
        case rel =>
          refine ⟨k + 1, by go_num, by omega, by rw [HT.out]; exact OwnU.snoc hown, hM2, fun a e e' => ?_, hb2⟩
          injection e with e
          subst e
          rcases hfr with h8 | h8
          · rw [h8] at e'; exact hne e'
          · have h8 := h8 _ e'; simp at h8; omega
        case measure => simp [intOf]; omega
      · have hkk : k = M.length := by omega
        have HT : Hid ((M.take k).map ltr = M.map ltr) := by show _ = _; rw [hkk, List.take_length]
        rw [HT.out] at hI
        obtain ⟨oL, cL, rfl, hcv⟩ := hI.conv
        have hcv9 := hcv 9 Try.underlying9
        rw [List.length_map] at hcv9
        clear hcv
        go_wp2_with fail
        go_ret
        exact ⟨by rw [HX.out]; rfl, hb⟩
end Go.Proofs.Ytcenndlbhgfdfaa
namespace Go.Proofs.Ytcenndlbhgfdfaa
open Go.RowKit
set_option linter.unusedVariables false
set_option maxRecDepth 100000

theorem fmt_len (x : Int) : (fmtA x).length ≤ 5 := by
  unfold fmtA
  split
  · split
    · decide
    · exact ltrs_len x 5
  · exact Nat.zero_le _
theorem fmt_size (x : Int) : (bs (fmtA x)).size ≤ 5 := by rw [bs_size]; exact fmt_len x
theorem fmt_emp (x : Int) : (fmtA x == []) = !stB x := by
  unfold fmtA
  cases h : stB x
  · rfl
  · have hx : St x := by simpa [stB] using h
    simp only [if_true]
    split
    · rfl
    · next h0 => rw [ltrs_nil hx]; simpa using h0
def fmtD (l r : Int) : List UInt8 := if stB l && (decide (0 ≤ r) && decide (r < 5)) then fmtA l ++ [62] ++ fmtA (2 ^ r.toNat) else []
theorem fmtD_yes {l r : Int} (hl : stB l = true) (h0 : 0 ≤ r) (h5 : r < 5) : Hid (fmtD l r = fmtA l ++ [62] ++ fmtA (2 ^ r.toNat)) := by
  show _ = _
  unfold fmtD; rw [hl, decide_eq_true h0, decide_eq_true h5]; rfl
theorem fmtD_no {l r : Int} (h : 0 ≤ r → ¬ r < 5) : Hid (fmtD l r = []) := by
  show _ = _
  unfold fmtD
  by_cases h0 : 0 ≤ r
  · rw [decide_eq_false (h h0)]; simp
  · rw [decide_eq_false h0]; simp
theorem c_FormatDep (l r : Int) (w : World) : Ans Try.prog 12 #[.agg #[.int .i64 l, .int .i64 r]] w (.string (bs (fmtD l r))) := by
  unfold Ans
  have hb := Below.refl w.heap.size w
  cases hst : stB l
  · go_enter Try.func12, Try.ntmps12
    go_wp2_with (first | (go_at_call 30; refine Calls.mono (Ans.eqb (c_isSet _ _) hst) ?_; rintro e w1 ⟨rfl, hbn⟩; replace hb := bel_to (w := w) (by first | exact hb | exact hb.alloc hb.size _ | exact (hb.alloc hb.size _).alloc (Nat.le_trans hb.size (by simp)) _ | exact hb.setCell (by simp [hb.size]) _) hbn; clear hbn))
    go_ret
    exact ⟨by unfold fmtD; rw [hst]; rfl, hb⟩
  · by_cases h0 : 0 ≤ r
    · by_cases h5 : r < 5
      · have hz1 := fmt_size l
        have hz2 := fmt_size (2 ^ r.toNat)
        have hpw := (pow_wrap h0 (by omega : r ≤ 5)).1
        have he := fmtD_yes hst h0 h5
        go_enter Try.func12, Try.ntmps12
        go_wp2_with (first | (go_at_call 30; refine Calls.mono (Ans.eqb (c_isSet _ _) hst) ?_; rintro e w1 ⟨rfl, hbn⟩; have b0 := box_cell hbn (by simp) 0 _ rfl; have b1 := box_cell hbn (by simp) 1 _ rfl; replace hb := bel_to (w := w) (by first | exact hb | exact hb.alloc hb.size _ | exact (hb.alloc hb.size _).alloc (Nat.le_trans hb.size (by simp)) _ | exact hb.setCell (by simp [hb.size]) _) hbn; clear hbn))
        (refine wp_region_after (by kernel_rfl) (by kernel_rfl) ?_; have q_b0 := fun (x : After _) => cell_keep b0 x.bel; have q_b1 := fun (x : After _) => cell_keep b1 x.bel; (repeat (go_big_quiet_step ((first | (go_at_call 31; exact Ans.after (c_FormatAttributes _ _)))))); clear q_b0; clear q_b1; refine wpQuiet_nil ?_; rintro _ ⟨⟨w1, hbn⟩, rfl⟩; (try simp only [After.w]); replace b0 := cell_keep b0 hbn; replace b1 := cell_keep b1 hbn; replace hb := bel_to (w := w) (by first | exact hb | exact hb.alloc hb.size _ | exact (hb.alloc hb.size _).alloc (Nat.le_trans hb.size (by simp)) _ | exact hb.setCell (by simp [hb.size]) _) hbn; clear hbn)
        go_wp2
        go_ret
        exact ⟨by rw [he.out, ← bs_app, ← bs_app]; rfl, hb⟩
      · have he := fmtD_no (l := l) (r := r) (fun h => by omega)
        go_enter Try.func12, Try.ntmps12
        go_wp2_with (first | (go_at_call 30; refine Calls.mono (Ans.eqb (c_isSet _ _) hst) ?_; rintro e w1 ⟨rfl, hbn⟩; have b0 := box_cell hbn (by simp) 0 _ rfl; have b1 := box_cell hbn (by simp) 1 _ rfl; replace hb := bel_to (w := w) (by first | exact hb | exact hb.alloc hb.size _ | exact (hb.alloc hb.size _).alloc (Nat.le_trans hb.size (by simp)) _ | exact hb.setCell (by simp [hb.size]) _) hbn; clear hbn))
        go_ret
        exact ⟨by rw [he.out]; rfl, hb⟩
    · have he := fmtD_no (l := l) (r := r) (fun h => by omega)
      go_enter Try.func12, Try.ntmps12
      go_wp2_with (first | (go_at_call 30; refine Calls.mono (Ans.eqb (c_isSet _ _) hst) ?_; rintro e w1 ⟨rfl, hbn⟩; have b0 := box_cell hbn (by simp) 0 _ rfl; have b1 := box_cell hbn (by simp) 1 _ rfl; replace hb := bel_to (w := w) (by first | exact hb | exact hb.alloc hb.size _ | exact (hb.alloc hb.size _).alloc (Nat.le_trans hb.size (by simp)) _ | exact hb.setCell (by simp [hb.size]) _) hbn; clear hbn))
      go_ret
      exact ⟨by rw [he.out]; rfl, hb⟩
theorem c_specFormatDep (l r : Int) (w : World) : Ans Try.prog 13 #[.agg #[.int .i64 l, .int .i64 r]] w (.string (bs (fmtD l r))) := by
  unfold Ans
  have hb := Below.refl w.heap.size w
  have hem : (bs (fmtA l)).toList.isEmpty = !stB l := by rw [bs_list, emp_eq]; exact fmt_emp l
  cases hst : stB l
  · rw [hst] at hem
    go_enter Try.func13, Try.ntmps13
    go_wp2_with (first | (go_at_call 32; refine Calls.mono (c_specFormatAttributes _ _) ?_; rintro e w1 ⟨rfl, hbn⟩; replace hb := bel_to (w := w) (by first | exact hb | exact hb.alloc hb.size _ | exact (hb.alloc hb.size _).alloc (Nat.le_trans hb.size (by simp)) _ | exact hb.setCell (by simp [hb.size]) _) hbn; clear hbn))
    go_ret
    exact ⟨by unfold fmtD; rw [hst]; rfl, hb⟩
  · rw [hst] at hem
    cases hin : inB r 0 4
    · have he := fmtD_no (l := l) (r := r) (by simp [inB] at hin; omega)
      go_enter Try.func13, Try.ntmps13
      go_wp2_with (first | (go_at_call 32; refine Calls.mono (c_specFormatAttributes _ _) ?_; rintro e w1 ⟨rfl, hbn⟩; have b0 := box_cell hbn (by simp) 0 _ rfl; have b1 := box_cell hbn (by simp) 1 _ rfl; replace hb := bel_to (w := w) (by first | exact hb | exact hb.alloc hb.size _ | exact (hb.alloc hb.size _).alloc (Nat.le_trans hb.size (by simp)) _ | exact hb.setCell (by simp [hb.size]) _) hbn; clear hbn) | (go_at_call 33; refine Calls.mono (Ans.eqb (c_l1In _ _ _ _) hin) ?_; rintro e w1 ⟨rfl, hbn⟩; replace hb := bel_to (w := w) (by first | exact hb | exact hb.alloc hb.size _ | exact (hb.alloc hb.size _).alloc (Nat.le_trans hb.size (by simp)) _ | exact hb.setCell (by simp [hb.size]) _) hbn; clear hbn))
      go_ret
      exact ⟨by rw [he.out]; rfl, hb⟩
    · have h2 : 0 ≤ r ∧ r ≤ 4 := by simpa [inB] using hin
      have hz1 := fmt_size l
      have hz2 := fmt_size (2 ^ r.toNat)
      have hpw := (pow_wrap h2.1 (by omega : r ≤ 5)).1
      go_enter Try.func13, Try.ntmps13
      go_wp2_with (first | (go_at_call 32; refine Calls.mono (c_specFormatAttributes _ _) ?_; rintro e w1 ⟨rfl, hbn⟩; have b0 := box_cell hbn (by simp) 0 _ rfl; have b1 := box_cell hbn (by simp) 1 _ rfl; replace hb := bel_to (w := w) (by first | exact hb | exact hb.alloc hb.size _ | exact (hb.alloc hb.size _).alloc (Nat.le_trans hb.size (by simp)) _ | exact hb.setCell (by simp [hb.size]) _) hbn; clear hbn) | (go_at_call 32; refine Calls.mono (c_specFormatAttributes _ _) ?_; rintro e w1 ⟨rfl, hbn⟩; replace b0 := cell_keep b0 hbn; replace b1 := cell_keep b1 hbn; replace hb := bel_to (w := w) (by first | exact hb | exact hb.alloc hb.size _ | exact (hb.alloc hb.size _).alloc (Nat.le_trans hb.size (by simp)) _ | exact hb.setCell (by simp [hb.size]) _) hbn; clear hbn) | (go_at_call 33; refine Calls.mono (Ans.eqb (c_l1In _ _ _ _) hin) ?_; rintro e w1 ⟨rfl, hbn⟩; replace b0 := cell_keep b0 hbn; replace b1 := cell_keep b1 hbn; replace hb := bel_to (w := w) (by first | exact hb | exact hb.alloc hb.size _ | exact (hb.alloc hb.size _).alloc (Nat.le_trans hb.size (by simp)) _ | exact hb.setCell (by simp [hb.size]) _) hbn; clear hbn))
      have he := fmtD_yes hst h2.1 (by omega)
      go_ret
      exact ⟨by rw [he.out, ← bs_app, ← bs_app]; rfl, hb⟩
def paTo (s : List UInt8) : Nat → Option Nat
  | 0 => none
  | k + 1 => match paTo s k with
    | some x => some x
    | none => if fmtA (k : Nat) == s then some k else none
theorem pa_hit {s : List UInt8} {k : Nat} (h : paTo s k = none) (hs : (fmtA (k : Nat) == s) = true) : ∀ n, k < n → paTo s n = some k
  | 0, hn => absurd hn (Nat.not_lt_zero _)
  | n + 1, hn => by
    by_cases e : k = n
    · subst e
      simp [paTo, h, hs]
    · have := pa_hit h hs n (by omega)
      simp [paTo, this]
theorem pa_miss {s : List UInt8} {k : Nat} (h : paTo s k = none) (hs : (fmtA (k : Nat) == s) = false) : paTo s (k + 1) = none := by simp [paTo, h, hs]
def paN (s : List UInt8) : Int := match paTo s 32 with | some x => (x : Int) | none => 0
def paB (s : List UInt8) : Bool := (paTo s 32).isSome
theorem c_ParseAttributes (s : List UInt8) (w : World) : Ans Try.prog 42 #[.string (bs s)] w (.tuple #[.int .i64 (paN s), .bool (paB s)]) := by
  unfold Ans
  go_enter Try.func42, Try.ntmps42
  go_wp2
  go_loopw [4] (fun v wr => ∃ k : Nat, v = .int .i64 k ∧ k ≤ 32 ∧ paTo s k = none ∧ Below w.heap.size w wr) (fun v _ => 32 - (intOf v).toNat)
  case atStart => exact ⟨0, rfl, Nat.zero_le _, rfl, Below.refl _ _⟩
  case round =>
    obtain ⟨k, rfl, hk, hno, hb⟩ := hrel
    by_cases hlt : k < 32
    · cases hh : (fmtA (k : Nat) == s)
      · have hm : Hid (paTo s (k + 1) = none) := pa_miss hno hh
        have hq : ((bs (fmtA (k : Nat))).toList == (bs s).toList) = false := by rw [bs_list, bs_list]; exact hh
        clear hno hh
        go_wp2_with (first | (go_at_call 31; refine Calls.mono (c_FormatAttributes _ _) ?_; rintro e w1 ⟨rfl, hbn⟩; replace hb := bel_to (w := w) (by first | exact hb | exact hb.alloc hb.size _ | exact (hb.alloc hb.size _).alloc (Nat.le_trans hb.size (by simp)) _ | exact hb.setCell (by simp [hb.size]) _) hbn; clear hbn))
        go_roundw
        case rel => exact ⟨k + 1, by go_num, by omega, hm.out, hb⟩
        case measure => simp [intOf]; omega
      · have hm : Hid (paTo s 32 = some k) := pa_hit hno hh 32 hlt
        have hq : ((bs (fmtA (k : Nat))).toList == (bs s).toList) = true := by rw [bs_list, bs_list]; exact hh
        clear hno hh
        go_wp2_with (first | (go_at_call 31; refine Calls.mono (c_FormatAttributes _ _) ?_; rintro e w1 ⟨rfl, hbn⟩; replace hb := bel_to (w := w) (by first | exact hb | exact hb.alloc hb.size _ | exact (hb.alloc hb.size _).alloc (Nat.le_trans hb.size (by simp)) _ | exact hb.setCell (by simp [hb.size]) _) hbn; clear hbn))
        go_ret2
        exact ⟨by unfold paN paB; rw [hm.out]; rfl, hb⟩
    · have hkk : k = 32 := by omega
      subst hkk
      have hm : Hid (paTo s 32 = none) := hno
      clear hno
      go_wp2
      go_ret2
      exact ⟨by unfold paN paB; rw [hm.out]; rfl, hb⟩
theorem c_specParseAttributes (s : List UInt8) (w : World) : Ans Try.prog 46 #[.string (bs s)] w (.tuple #[.int .i64 (paN s), .bool (paB s)]) := by
  unfold Ans
  have hall : allM 5 = 31 := by decide
  go_enter Try.func46, Try.ntmps46
  go_wp2
  go_loopw [4] (fun v wr => ∃ k : Nat, v = .int .i64 k ∧ k ≤ 32 ∧ paTo s k = none ∧ Below w.heap.size w wr) (fun v _ => 32 - (intOf v).toNat)
  case atStart => exact ⟨0, rfl, Nat.zero_le _, rfl, Below.refl _ _⟩
  case round =>
    obtain ⟨k, rfl, hk, hno, hb⟩ := hrel
    by_cases hlt : k < 32
    · cases hh : (fmtA (k : Nat) == s)
      · have hm : Hid (paTo s (k + 1) = none) := pa_miss hno hh
        have hq : ((bs (fmtA (k : Nat))).toList == (bs s).toList) = false := by rw [bs_list, bs_list]; exact hh
        clear hno hh
        go_wp2_with (first | (go_at_call 60; refine Calls.mono (c_l2All _ (by omega) _) ?_; rintro e w1 ⟨rfl, hbn⟩; replace hb := bel_to (w := w) (by first | exact hb | exact hb.alloc hb.size _ | exact (hb.alloc hb.size _).alloc (Nat.le_trans hb.size (by simp)) _ | exact hb.setCell (by simp [hb.size]) _) hbn; clear hbn) | (go_at_call 32; refine Calls.mono (c_specFormatAttributes _ _) ?_; rintro e w1 ⟨rfl, hbn⟩; replace hb := bel_to (w := w) (by first | exact hb | exact hb.alloc hb.size _ | exact (hb.alloc hb.size _).alloc (Nat.le_trans hb.size (by simp)) _ | exact hb.setCell (by simp [hb.size]) _) hbn; clear hbn))
        go_roundw
        case rel => exact ⟨k + 1, by go_num, by omega, hm.out, hb⟩
        case measure => simp [intOf]; omega
      · have hm : Hid (paTo s 32 = some k) := pa_hit hno hh 32 hlt
        have hq : ((bs (fmtA (k : Nat))).toList == (bs s).toList) = true := by rw [bs_list, bs_list]; exact hh
        clear hno hh
        go_wp2_with (first | (go_at_call 60; refine Calls.mono (c_l2All _ (by omega) _) ?_; rintro e w1 ⟨rfl, hbn⟩; replace hb := bel_to (w := w) (by first | exact hb | exact hb.alloc hb.size _ | exact (hb.alloc hb.size _).alloc (Nat.le_trans hb.size (by simp)) _ | exact hb.setCell (by simp [hb.size]) _) hbn; clear hbn) | (go_at_call 32; refine Calls.mono (c_specFormatAttributes _ _) ?_; rintro e w1 ⟨rfl, hbn⟩; replace hb := bel_to (w := w) (by first | exact hb | exact hb.alloc hb.size _ | exact (hb.alloc hb.size _).alloc (Nat.le_trans hb.size (by simp)) _ | exact hb.setCell (by simp [hb.size]) _) hbn; clear hbn))
        go_ret2
        exact ⟨by unfold paN paB; rw [hm.out]; rfl, hb⟩
    · have hkk : k = 32 := by omega
      subst hkk
      have hm : Hid (paTo s 32 = none) := hno
      clear hno
      go_wp2_with (first | (go_at_call 60; refine Calls.mono (c_l2All _ (by omega) _) ?_; rintro e w1 ⟨rfl, hbn⟩; replace hb := bel_to (w := w) (by first | exact hb | exact hb.alloc hb.size _ | exact (hb.alloc hb.size _).alloc (Nat.le_trans hb.size (by simp)) _ | exact hb.setCell (by simp [hb.size]) _) hbn; clear hbn))
      go_ret2
      exact ⟨by unfold paN paB; rw [hm.out]; rfl, hb⟩
end Go.Proofs.Ytcenndlbhgfdfaa
namespace Go.Proofs.Ytcenndlbhgfdfaa
open Go.RowKit
set_option linter.unusedVariables false
set_option maxRecDepth 100000

def cutF : List UInt8 → List UInt8 → List (List UInt8)
  | [], p => [p]
  | c :: l, p => if c == 62 then p :: cutF l [] else cutF l (p ++ [c])
theorem info_string : (Try.prog.info? 9).map (fun i => (i.zero, i.size, i.bytes)) = some (some (.string ⟨#[]⟩), 1, 16) := by kernel_rfl
def encS (c : List UInt8) : Value := .string (bs c)
def OwnS (w : World) (base : Nat) (v : Value) (L : List (List UInt8)) : Prop := w.ownsRow base 9 1 v L.length (L.map encS)
theorem OwnS.keep {w w' : World} {base : Nat} {v : Value} {L : List (List UInt8)} (h : OwnS w base v L) (hb : Below w.heap.size w w') : OwnS w' base v L := owns_keep h hb
theorem OwnS.snoc {w : World} {base : Nat} {v : Value} {L : List (List UInt8)} {x : List UInt8} (h : w.ownsRow base 9 1 v (L.length + 1) (L.map encS ++ [encS x])) : OwnS w base v (L ++ [x]) := by
  unfold OwnS
  rw [List.length_append, List.map_append]
  exact h
theorem OwnS.empty (w : World) (base : Nat) (hb : base ≤ w.heap.size) : OwnS (w.alloc (.cells #[] 9)) base (.slice (some ⟨w.heap.size, 0, none⟩) 0 0) [] :=
  World.ownsRow_lit w #[] 0 hb (Nat.zero_le _) rfl
theorem bs_at {l : List UInt8} {k : Nat} (hk : k < l.length) : (bs l)[k]'(by rw [bs_size]; exact hk) = l[k] := by
  simp [bs, ByteArray.getElem_eq_getElem_data]
theorem bs_cut {l : List UInt8} {k : Nat} (hk : k < l.length) : (bs l).extract k (k + 1) = bs [l[k]] := by
  unfold bs
  rw [ByteArray.extract_mk]
  congr 1
  rw [Nat.add_sub_cancel_left, List.drop_eq_getElem_cons hk]
  rfl
theorem drop_cut {l : List UInt8} {k : Nat} (hk : k < l.length) (p : List UInt8) : cutF (l.drop k) p = if l[k] == 62 then p :: cutF (l.drop (k + 1)) [] else cutF (l.drop (k + 1)) (p ++ [l[k]]) := by
  rw [List.drop_eq_getElem_cons hk]
  rfl
theorem u8_62 (c : UInt8) : ((c.toNat : Int) == 62) = (c == 62) := by
  rw [Bool.eq_iff_iff]
  simp only [beq_iff_eq]
  constructor
  · intro h
    apply UInt8.toNat_inj.1
    have : c.toNat = 62 := by omega
    rw [this]; rfl
  · intro h
    rw [h]; rfl
theorem c_l2Cut (l : List UInt8) (hl : l.length ≤ 1000) (w : World) :
    Calls Try.prog 45 #[.string (bs l), .int .u8 62] w fun e w' => ∃ v, e = .returned v ∧ OwnS w' w.heap.size v (cutF l []) ∧ Below w.heap.size w w' := by
  obtain ⟨i0, hi, hz0, hz1, hz2⟩ := info_parts info_string
  have hls : (bs l).size = l.length := bs_size l
  go_enter Try.func45, Try.ntmps45
  go_wp2
  go_loopw [5, 6, 7] (fun v p i wr => ∃ (k : Nat) (out : List (List UInt8)) (part : List UInt8), i = .int .i64 k ∧ k ≤ l.length ∧ p = .string (bs part) ∧ part.length ≤ k ∧ out.length ≤ k ∧ OwnS wr w.heap.size v out ∧ out ++ cutF (l.drop k) part = cutF l [] ∧ Below w.heap.size w wr) (fun _ _ i _ => l.length - (intOf i).toNat)
  case atStart => exact ⟨0, [], [], rfl, Nat.zero_le _, rfl, Nat.le_refl _, Nat.le_refl _, OwnS.empty _ _ (Nat.le_refl _), rfl, (Below.refl _ _).alloc (Nat.le_refl _) _⟩
  case round =>
    obtain ⟨k, out, part, rfl, hk, rfl, hp, ho, hI, heq, hb⟩ := hrel
    by_cases hlt : k < l.length
    · have hat : (bs l)[k]'(by rw [bs_size]; exact hlt) = l[k] := bs_at hlt
      have hcu := bs_cut hlt
      have hdr := drop_cut hlt part
      have HD : Hid (out ++ (if l[k] == 62 then part :: cutF (l.drop (k + 1)) [] else cutF (l.drop (k + 1)) (part ++ [l[k]])) = cutF l []) := by show _ = _; rw [← hdr]; exact heq
      clear hdr heq
      generalize hcc : l[k] = c at *
      clear hcc
      have hp0 : part.length ≤ 1000 := by omega
      have ho0 : out.length ≤ 1000 := by omega
      cases h62 : (c == 62)
      · have hq : ((c.toNat : Int) == 62) = false := by rw [u8_62]; exact h62
        have hsz : ¬ 9223372036854775807 < (bs part).size + (bs [c]).size := by rw [bs_size, bs_size]; simp; omega
        rw [h62] at HD
        clear h62
        go_wp2_with fail
        go_roundw
        case rel => exact ⟨k + 1, out, part ++ [c], by go_num, by omega, by rw [bs_app], by simp; omega, by omega, hI, HD.out, hb⟩
        case measure => simp [intOf]; omega
      · have hq : ((c.toNat : Int) == 62) = true := by rw [u8_62]; exact h62
        rw [h62] at HD
        clear h62
        obtain ⟨oL, cL, rfl, _⟩ := owns_cells hI
        go_wp2_with (first | (at_builtin; refine wpList_append_own _ rfl _ _ 58 rfl w.heap.size 9 i0 (.string ⟨#[]⟩) 1 16 Try.underlying58 hi hz0 hz1 hz2 rfl (by decide) _ _ _ rfl (World.ownsRow.alloc hI _) _ 1 1 [encS part] rfl rfl (by intro j u hj; match j, hj with | 0, hj => simp at hj; subst hj; simp [Addr.add, encS]) (by intro u hu; simp at hu; subst hu; rfl) (by unfold maxLen; omega) (by omega) (by have := hb.size; simp; omega) ?_; intro v' w1 hown hgrow hfr))
        replace hgrow : (wr.alloc (.cells #[encS part] 9)).grownBy w1 (Value.slice oL out.length cL).ownBlock := hgrow
        have hb2 := (hb.alloc hb.size (.cells #[encS part] 9)).grown hgrow (by have := hb.size; simp; omega) (fun g hg => (World.ownsRow.lt hI g hg).1)
        go_roundw
        case rel => exact ⟨k + 1, out ++ [part], [], by go_num, by omega, rfl, by simp, by simp; omega, OwnS.snoc hown, by rw [List.append_assoc]; exact HD.out, hb2⟩
        case measure => simp [intOf]; omega
    · have hkk : k = l.length := by omega
      subst hkk
      have HE : Hid (out ++ [part] = cutF l []) := by show _ = _; rw [← heq, List.drop_length]; rfl
      clear heq
      have hp0 : part.length ≤ 1000 := by omega
      have ho0 : out.length ≤ 1000 := by omega
      obtain ⟨oL, cL, rfl, _⟩ := owns_cells hI
      go_wp2_with (first | (at_builtin; refine wpList_append_own _ rfl _ _ 58 rfl w.heap.size 9 i0 (.string ⟨#[]⟩) 1 16 Try.underlying58 hi hz0 hz1 hz2 rfl (by decide) _ _ _ rfl (World.ownsRow.alloc hI _) _ 1 1 [encS part] rfl rfl (by intro j u hj; match j, hj with | 0, hj => simp at hj; subst hj; simp [Addr.add, encS]) (by intro u hu; simp at hu; subst hu; rfl) (by unfold maxLen; omega) (by omega) (by have := hb.size; simp; omega) ?_; intro v' w1 hown hgrow hfr))
      replace hgrow : (wr.alloc (.cells #[encS part] 9)).grownBy w1 (Value.slice oL out.length cL).ownBlock := hgrow
      have hb2 := (hb.alloc hb.size (.cells #[encS part] 9)).grown hgrow (by have := hb.size; simp; omega) (fun g hg => (World.ownsRow.lt hI g hg).1)
      go_ret
      exact ⟨v', rfl, by rw [← HE.out]; exact OwnS.snoc hown, hb2⟩
end Go.Proofs.Ytcenndlbhgfdfaa
namespace Go.Proofs.Ytcenndlbhgfdfaa
open Go.RowKit
set_option linter.unusedVariables false
set_option maxRecDepth 100000

/-- A string of at most N bytes is answered, beside a cursor. -/
def DrawsS (f : FuncId) (args : Array Value) (g : Nat) (N : Nat) (w : World) : Prop :=
  Calls Try.prog f args w fun e w' => ∃ l : List UInt8, e = .returned (.string (bs l)) ∧ l.length ≤ N ∧ Cur w' g ∧ w.grownBy w' (some g)
theorem u8_of {x : Int} (h0 : 0 ≤ x) (h1 : x < 256) : ∃ c : UInt8, Hid (x = (c.toNat : Int)) := ⟨UInt8.ofNat x.toNat, by
  show x = _
  rw [UInt8.toNat_ofNat']
  omega⟩
theorem wrap_u8 {y : Int} {c : UInt8} (h0 : 0 ≤ y) (h1 : y < 256) (h : y = (c.toNat : Int)) : IntKind.u8.wrap y = (c.toNat : Int) := by
  rw [← h]
  unfold IntKind.wrap
  simp [IntKind.bits, IntKind.signed]
  omega
def u8c (x : Int) : UInt8 := UInt8.ofNat (IntKind.u8.wrap x).toNat
theorem u8c_eq (x : Int) : IntKind.u8.wrap x = ((u8c x).toNat : Int) := by
  unfold u8c IntKind.wrap
  simp [IntKind.bits, IntKind.signed]
  omega
theorem OwnU.cur {w w' : World} {B g : Nat} {v : Value} {D : List UInt8} (h : OwnU w B v D) (hg : w.grownBy w' (some g)) (hB : g < B) : OwnU w' B v D := owns_cur h hg hB
theorem OwnU.shape {w : World} {base : Nat} {v : Value} {L : List UInt8} (h : OwnU w base v L) : ∃ o c, v = .slice o L.length c := by
  obtain ⟨o, c, e, _⟩ := owns_cells h
  exact ⟨o, c, e⟩
theorem drew_grownT {w w' : World} {row : Option Nat} (h : w.drew.grownBy w' row) : w.grownBy w' row := ⟨h.os, h.tape, h.output, h.size, h.block⟩
theorem bs_to {l : List UInt8} {k : Nat} : (bs l).extract 0 k = bs (l.take k) := by
  apply ByteArray.ext
  simp [bs]
theorem bs_from {l : List UInt8} {k n : Nat} (h : l.length = n) : (bs l).extract k n = bs (l.drop k) := by
  subst h
  apply ByteArray.ext
  simp [bs]
  rw [List.take_of_length_le (by simp)]
set_option maxHeartbeats 1600000 in
theorem c_l1Text (g : Nat) (w : World) (hc : Cur w g) : DrawsS 65 #[.pointer (some ⟨g, 0, none⟩), .int .i64 3] g 3 w := by
  unfold DrawsS
  obtain ⟨i0, hi0, hz0, hz1, hz2⟩ := info_parts info_byte
  have hlt := hc.lt
  have hI := OwnU.empty w w.heap.size (Nat.le_refl _)
  have hG := grown_of_below ((Below.refl w.heap.size w).alloc (Nat.le_refl _) (.cells #[] 5)) (some g)
  replace hc := cur_alloc hc (.cells #[] 5)
  go_enter Try.func65, Try.ntmps65
  go_wp2_with fail
  refine (c_l1Below g 4 (by omega) _ hc).mono ?_
  rintro e w1 ⟨s, rfl, _, _, _, hc1, hg⟩
  replace hI := hI.cur hg hlt
  replace hG := grown_trans hG hg
  clear hc hg
  go_wp2_with fail
  refine (c_l1Below g 4 (by omega) _ hc1).mono ?_
  rintro e w2 ⟨q, rfl, hq0, hq1, _, hc2, hg⟩
  replace hI := hI.cur hg hlt
  replace hG := grown_trans hG hg
  obtain ⟨k0, rfl⟩ := Int.eq_ofNat_of_zero_le hq0
  have hk0 : k0 ≤ 3 := by have := hq1 (by omega); omega
  clear hc1 hg hq0 hq1
  go_wp2_with fail
  go_loopw [5, 7] (fun v i wr => ∃ (k : Nat) (D : List UInt8), i = .int .i64 k ∧ D.length + k ≤ 3 ∧ OwnU wr w.heap.size v D ∧ Cur wr g ∧ w.grownBy wr (some g)) (fun _ i _ => (intOf i).toNat)
  case atStart => exact ⟨k0, [], rfl, by simpa using hk0, hI, hc2, hG⟩
  case round =>
    clear hI hc2 hG
    obtain ⟨k, D, rfl, hk, hI, hc, hG⟩ := hrel
    have hi := hi0
    have HDL : D.length ≤ 3 := by omega
    by_cases hlt0 : 0 < k
    · go_wp2_with fail
      refine (c_l1Byte g _ hc).mono ?_
      rintro e w2 ⟨b, rfl, hb0, hb1, hc2, hg⟩
      replace hI := hI.cur hg hlt
      replace hG := grown_trans hG hg
      clear hc hg
      by_cases e1 : s = 1
      · subst e1
        obtain ⟨c9, hcv⟩ := u8_of (x := b % 2) (by omega) (by omega)
        go_wp2_with (first | (at_builtin; refine wpList_append_own _ rfl _ _ 22 rfl w.heap.size 5 i0 (.int .u8 0) 1 1 Try.underlying22 hi hz0 hz1 hz2 rfl (by decide) _ _ _ rfl (World.ownsRow.alloc hI _) _ 1 1 [.int .u8 (b % 2)] rfl rfl (by intro j u hj; match j, hj with | 0, hj => simp at hj; subst hj; simp [Addr.add]) (by intro u hu; simp at hu; subst hu; rfl) (by unfold maxLen; omega) (by omega) (by have := hG.size; simp; omega) ?_; intro v' w9 hown hgrow _; have hc9 := Cur.grown (cur_alloc hc2 _) hgrow (fun k e => by have := (World.ownsRow.lt hI k e).1; omega); have hG9 := grown_more (grown_trans hG (grown_of_below ((Below.refl _ _).alloc (Nat.le_refl _) _) _)) hgrow (fun k e => (World.ownsRow.lt hI k e).1); replace hI := OwnU.snoc (x := c9) (by rw [hcv.out] at hown; exact hown); clear hown hgrow hG hc2) | fail)
        go_roundw
        case rel => exact ⟨k - 1, _, by go_num, by simp; omega, hI, hc9, hG9⟩
        case measure => simp [intOf]; omega
      · by_cases e2 : s = 2
        · subst e2
          obtain ⟨c9, hcv⟩ := u8_of (x := 97 + b % 4) (by omega) (by omega)
          go_wp2_with (first | (at_builtin; refine wpList_append_own _ rfl _ _ 22 rfl w.heap.size 5 i0 (.int .u8 0) 1 1 Try.underlying22 hi hz0 hz1 hz2 rfl (by decide) _ _ _ rfl (World.ownsRow.alloc hI _) _ 1 1 [.int .u8 (97 + b % 4)] rfl rfl (by intro j u hj; match j, hj with | 0, hj => simp at hj; subst hj; simp [Addr.add]) (by intro u hu; simp at hu; subst hu; rfl) (by unfold maxLen; omega) (by omega) (by have := hG.size; simp; omega) ?_; intro v' w9 hown hgrow _; have hc9 := Cur.grown (cur_alloc hc2 _) hgrow (fun k e => by have := (World.ownsRow.lt hI k e).1; omega); have hG9 := grown_more (grown_trans hG (grown_of_below ((Below.refl _ _).alloc (Nat.le_refl _) _) _)) hgrow (fun k e => (World.ownsRow.lt hI k e).1); replace hI := OwnU.snoc (x := c9) (by rw [hcv.out] at hown; exact hown); clear hown hgrow hG hc2) | fail)
          go_roundw
          case rel => exact ⟨k - 1, _, by go_num, by simp; omega, hI, hc9, hG9⟩
          case measure => simp [intOf]; omega
        · skip
          obtain ⟨c9, hcv⟩ := u8_of (x := b) (by omega) (by omega)
          go_wp2_with (first | (at_builtin; refine wpList_append_own _ rfl _ _ 22 rfl w.heap.size 5 i0 (.int .u8 0) 1 1 Try.underlying22 hi hz0 hz1 hz2 rfl (by decide) _ _ _ rfl (World.ownsRow.alloc hI _) _ 1 1 [.int .u8 (b)] rfl rfl (by intro j u hj; match j, hj with | 0, hj => simp at hj; subst hj; simp [Addr.add]) (by intro u hu; simp at hu; subst hu; rfl) (by unfold maxLen; omega) (by omega) (by have := hG.size; simp; omega) ?_; intro v' w9 hown hgrow _; have hc9 := Cur.grown (cur_alloc hc2 _) hgrow (fun k e => by have := (World.ownsRow.lt hI k e).1; omega); have hG9 := grown_more (grown_trans hG (grown_of_below ((Below.refl _ _).alloc (Nat.le_refl _) _) _)) hgrow (fun k e => (World.ownsRow.lt hI k e).1); replace hI := OwnU.snoc (x := c9) (by rw [hcv.out] at hown; exact hown); clear hown hgrow hG hc2) | fail)
          go_roundw
          case rel => exact ⟨k - 1, _, by go_num, by simp; omega, hI, hc9, hG9⟩
          case measure => simp [intOf]; omega
    · have HK : Hid (k = 0) := by show k = 0; omega
      obtain ⟨oL, cL, rfl, hcv⟩ := hI.conv
      have hcv9 := hcv 9 Try.underlying9
      clear hcv
      go_wp2_with fail
      go_ret
      exact ⟨D, rfl, HDL, hc, hG⟩
theorem OwnS.grown_at {w w' : World} {o : Option Addr} {c g : Nat} {L : List (List UInt8)} (h : ∀ j, j < L.length → ∃ b off, o = some ⟨b, off, none⟩ ∧ b ≠ g ∧ b < w.heap.size ∧ w.cell? ⟨b, off + j, none⟩ = some (.string (bs (L.getD j [])))) (hg : w.grownBy w' (some g)) {j : Nat} (hj : j < L.length) : ∃ b off, o = some ⟨b, off, none⟩ ∧ w'.cell? ⟨b, off + j, none⟩ = some (.string (bs (L.getD j []))) := by
  obtain ⟨b, off, e, hne, hlt, hc⟩ := h j hj
  exact ⟨b, off, e, by rw [World.cell?_of_block (hg.block b hlt (fun e => by injection e with e; exact hne e))]; exact hc⟩
set_option maxHeartbeats 1600000 in
theorem c_l1Pick (g : Nat) (b : Nat) (cap : Nat) (L : List (List UInt8)) (h0 : 0 < L.length) (hl : L.length ≤ 256) (w : World) (hc : Cur w g) (hb : b ≠ g) (hbs : b < w.heap.size) (hL : ∀ j, j < L.length → w.cell? ⟨b, j, none⟩ = some (.string (bs (L.getD j [])))) :
    Calls Try.prog 40 #[.pointer (some ⟨g, 0, none⟩), .slice (some ⟨b, 0, none⟩) L.length cap] w fun e w' => ∃ j, e = .returned (.string (bs (L.getD j []))) ∧ j < L.length ∧ Cur w' g ∧ w.grownBy w' (some g) := by
  go_enter Try.func40, Try.ntmps40
  go_wp2_with fail
  refine (c_l1Below g L.length (by omega) _ hc).mono ?_
  rintro e w1 ⟨x, rfl, hx0, hx1, _, hc1, hg⟩
  obtain ⟨k, rfl⟩ := Int.eq_ofNat_of_zero_le hx0
  have hk : k < L.length := by have := hx1 (by omega); omega
  have h1 : w1.cell? ⟨b, k, none⟩ = some (.string (bs (L.getD k []))) := by rw [World.cell?_of_block (hg.block b hbs (fun e => by injection e with e; exact hb e))]; exact hL k hk
  clear hx1 hc hL hx0
  go_wp2
  go_ret
  exact ⟨k, by first | rfl | simp [List.getElem?_eq_getElem hk], hk, hc1, hg⟩
theorem conv_one (w : World) (y : Int) (c : UInt8) (h : y = (c.toNat : Int)) (k : Nat) (hk : w.cell? ⟨k, 0, none⟩ = some (.int .u8 y)) : (convert 22 9 (.slice (some ⟨k, 0, none⟩) 1 1)).run Try.prog w = .ok (.string (bs [c])) w := by
  subst h
  have hcell : ∀ i, i < 1 → w.cell? ⟨k, 0 + i, none⟩ = some (.int .u8 (([(c.toNat : Int)] : List Int).getD i 0)) := fun i hi => by
    have e : i = 0 := by omega
    subst e
    exact hk
  have := run_convert_bytes_arg (P := Try.prog) w 22 5 Try.underlying22 Try.underlying5 k 0 1 1 [(c.toNat : Int)] rfl hcell 9 Try.underlying9
  rw [this]
  congr 2
  unfold strOfNums bs
  congr 1
  simp
set_option maxHeartbeats 6400000 in
theorem c_l1Spoil (g : Nat) (s : List UInt8) (hs : s.length ≤ 100) (w : World) (hc : Cur w g) : DrawsS 39 #[.pointer (some ⟨g, 0, none⟩), .string (bs s)] g 101 w := by
  unfold DrawsS
  have hls : (bs s).size = s.length := bs_size s
  have hlt := hc.lt
  by_cases h0 : s.length = 0
  · go_enter Try.func39, Try.ntmps39
    go_wp2_with fail
    have H := c_l1Text g _ hc
    unfold DrawsS at H
    refine H.mono ?_
    clear H
    rintro e w1 ⟨l, rfl, hl, hc1, hg⟩
    go_wp2
    go_ret
    exact ⟨l, rfl, by omega, hc1, hg⟩
  · go_enter Try.func39, Try.ntmps39
    go_wp2_with fail
    refine (c_l1Below g s.length (by omega) _ hc).mono ?_
    rintro e w1 ⟨x, rfl, hx0, hx1, _, hc1, hG⟩
    obtain ⟨k, rfl⟩ := Int.eq_ofNat_of_zero_le hx0
    have hk : k < s.length := by have := hx1 (by omega); omega
    clear hx1 hc hx0
    go_wp2_with fail
    refine (c_l1Below g 4 (by omega) _ hc1).mono ?_
    rintro e w2 ⟨q, rfl, _, _, _, hc2, hg⟩
    replace hG := grown_trans hG hg
    clear hc1 hg
    have t1 : (bs s).extract 0 k = bs (s.take k) := bs_to
    have t2 : (bs s).extract (k + 1) s.length = bs (s.drop (k + 1)) := bs_from rfl
    have t3 : (bs s).extract k s.length = bs (s.drop k) := bs_from rfl
    obtain ⟨a, ha⟩ : ∃ a, s.take k = a := ⟨_, rfl⟩
    obtain ⟨b, hb⟩ : ∃ b, s.drop (k + 1) = b := ⟨_, rfl⟩
    obtain ⟨d, hd⟩ : ∃ d, s.drop k = d := ⟨_, rfl⟩
    have hA : a.length = k := by rw [← ha, List.length_take]; omega
    have hB : b.length + (k + 1) = s.length := by rw [← hb, List.length_drop]; omega
    have hD : d.length + k = s.length := by rw [← hd, List.length_drop]; omega
    rw [ha] at t1
    rw [hb] at t2
    rw [hd] at t3
    clear ha hb hd
    have HLA : Hid (a.length = k) := hA
    have HLB : Hid (b.length + (k + 1) = s.length) := hB
    have HLD : Hid (d.length + k = s.length) := hD
    clear hA hB hD
    have hkl : k ≤ s.length := by omega
    have hkl1 : k + 1 ≤ s.length := by omega
    have hkw : IntKind.i64.wrap ((k : Int) + 1) = (k : Int) + 1 := by unfold IntKind.wrap; simp [IntKind.bits, IntKind.signed]; omega
    have hk0 : (0 : Int) ≤ (k : Int) + 1 := by omega
    have hk2 : (k : Int) + 1 ≤ (s.length : Int) := by omega
    by_cases e0 : q = 0
    · skip
      have z1 : ¬ 9223372036854775807 < (bs a).size + (bs b).size := by rw [bs_size, bs_size]; have := HLA.out; have := HLB.out; omega
      go_wp2_with fail
      (refine wp_region_after (by kernel_rfl) (by kernel_rfl) ?_; (repeat (go_big_quiet_step (fail))); refine wpQuiet_nil ?_; rintro _ ⟨⟨w3, hbn⟩, rfl⟩; (try simp only [After.w]))
      replace hc2 := hc2.keep hbn
      replace hG := grown_trans hG (grown_of_below hbn _)
      go_wp2
      go_ret
      exact ⟨a ++ b, by rw [bs_app]; rfl, by have := HLA.out; have := HLB.out; simp; omega, hc2, hG⟩
    by_cases e1 : q = 1
    · skip
      have z1 : ∀ c : UInt8, ¬ 9223372036854775807 < (bs a).size + (bs [c]).size := fun c => by rw [bs_size, bs_size]; have := HLA.out; simp; omega
      have z2 : ∀ c : UInt8, ¬ 9223372036854775807 < (bs a).size + (bs [c]).size + (bs d).size := fun c => by rw [bs_size, bs_size, bs_size]; have := HLA.out; have := HLD.out; simp; omega
      go_wp2_with fail
      go_region_law (first
        | ((try go_simp); refine (c_l1Byte g _ (by first | exact hc2 | exact hc2.keep (Below.refl _ _).drew)).mono ?_; rintro e w3 ⟨y, rfl, hy0, hy1, hc3, hg⟩; have hG3 := grown_trans hG (show w2.grownBy w3 (some g) by first | exact hg | exact drew_grownT hg); obtain ⟨c9, hcv⟩ := u8_of hy0 hy1; have hw8 : IntKind.u8.wrap y = (c9.toNat : Int) := wrap_u8 hy0 hy1 hcv.out; have hcn := conv_one (w3.alloc (.cells #[.int .u8 (c9.toNat : Int)] 5)) _ c9 rfl w3.heap.size (box_at w3 _ _ 0 _ rfl); have hcn2 := conv_one (w3.alloc (.cells #[.int .u8 (c9.toNat : Int)] 5)).drew _ c9 rfl w3.heap.size (box_at w3 _ _ 0 _ rfl); have hcn3 := conv_one (w3.drew.alloc (.cells #[.int .u8 (c9.toNat : Int)] 5)) _ c9 rfl w3.heap.size (box_at w3.drew _ _ 0 _ rfl); clear hg)
        | fail)
      all_goals
        go_wp2
        go_ret
        exact ⟨a ++ [c9] ++ d, by rw [bs_app, bs_app]; rfl, by have := HLA.out; have := HLD.out; simp; omega, hc3.keep (by first | exact (Below.refl _ _).alloc (Nat.le_refl _) _ | exact ((Below.refl _ _).alloc (Nat.le_refl _) _).drew), grown_trans hG3 (grown_of_below (by first | exact (Below.refl _ _).alloc (Nat.le_refl _) _ | exact ((Below.refl _ _).alloc (Nat.le_refl _) _).drew) _)⟩
    by_cases e2 : q = 2
    · go_wp2
      go_ret
      exact ⟨a, rfl, by have := HLA.out; omega, hc2, hG⟩
    · skip
      have z1 : ∀ c : UInt8, ¬ 9223372036854775807 < (bs a).size + (bs [c]).size := fun c => by rw [bs_size, bs_size]; have := HLA.out; simp; omega
      have z2 : ∀ c : UInt8, ¬ 9223372036854775807 < (bs a).size + (bs [c]).size + (bs b).size := fun c => by rw [bs_size, bs_size, bs_size]; have := HLA.out; have := HLB.out; simp; omega
      go_wp2_with fail
      go_region_law (first
        | ((try go_simp); refine (c_l1Below g 255 (by omega) _ (by first | exact hc2 | exact hc2.keep (Below.refl _ _).drew)).mono ?_; rintro e w3 ⟨y, rfl, hy0, hy1, _, hc3, hg⟩; have hG3 := grown_trans hG (show w2.grownBy w3 (some g) by first | exact hg | exact drew_grownT hg); have hcn := fun x : Int => conv_one (w3.alloc (.cells #[.int .u8 (IntKind.u8.wrap x)] 5)) _ (u8c x) (u8c_eq x) w3.heap.size (box_at w3 _ _ 0 _ rfl); have hcn2 := fun x : Int => conv_one (w3.alloc (.cells #[.int .u8 (IntKind.u8.wrap x)] 5)).drew _ (u8c x) (u8c_eq x) w3.heap.size (box_at w3 _ _ 0 _ rfl); have hcn3 := fun x : Int => conv_one (w3.drew.alloc (.cells #[.int .u8 (IntKind.u8.wrap x)] 5)) _ (u8c x) (u8c_eq x) w3.heap.size (box_at w3.drew _ _ 0 _ rfl); clear hg)
        | fail)
      all_goals
        go_wp2
        go_ret
        exact ⟨_, by rw [bs_app, bs_app]; rfl, by have := HLA.out; have := HLB.out; simp; omega, hc3.keep (by first | exact (Below.refl _ _).alloc (Nat.le_refl _) _ | exact ((Below.refl _ _).alloc (Nat.le_refl _) _).drew), grown_trans hG3 (grown_of_below (by first | exact (Below.refl _ _).alloc (Nat.le_refl _) _ | exact ((Below.refl _ _).alloc (Nat.le_refl _) _).drew) _)⟩
end Go.Proofs.Ytcenndlbhgfdfaa
namespace Go.Proofs.Ytcenndlbhgfdfaa
open Go.RowKit
set_option linter.unusedVariables false
set_option maxRecDepth 100000

theorem fmtD_len (l r : Int) : (fmtD l r).length ≤ 11 := by
  unfold fmtD
  have h1 := fmt_len l
  have h2 := fmt_len (2 ^ r.toNat)
  split
  · simp; omega
  · simp
def parseL : List (List UInt8) := [[], [65, 62, 66], [110, 111, 110, 101, 62, 65], [65, 62, 65, 66], [65, 62], [66, 65, 62, 67], [65, 62, 110, 111, 110, 101], [65, 45, 62, 66], [69, 62, 65]]
theorem parseL_len : ∀ j, (parseL.getD j []).length ≤ 6 := by
  intro j
  unfold parseL
  match j with
  | 0 => decide
  | 1 => decide
  | 2 => decide
  | 3 => decide
  | 4 => decide
  | 5 => decide
  | 6 => decide
  | 7 => decide
  | 8 => decide
  | j + 9 => simp
set_option maxHeartbeats 3200000 in
theorem c_DrawParseDep (oa) (mc cap : Nat) (hm : mc ≤ 1048576) (w : World) (hB : BytesAt w oa mc) :
    Calls Try.prog 16 #[.slice oa mc cap] w fun e w' => ∃ (n : Int) (l : List UInt8), e = .returned (.tuple #[.int .i64 n, .string (bs l)]) ∧ l.length ≤ 200 ∧ Below w.heap.size w w' := by
  have hb := Below.refl w.heap.size w
  go_enter Try.func16, Try.ntmps16
  go_wp2_with fail
  refine (c_l1New oa mc cap hm _ hB).mono ?_
  rintro e w1 ⟨rfl, hc1, hbn⟩
  replace hb := bel_to hb hbn
  clear hbn
  go_wp2_with fail
  refine (c_l1Below _ 7 (by omega) _ hc1).mono ?_
  rintro e w2 ⟨n, rfl, _, _, _, hc2, hg⟩
  replace hb := below_cur hb hg (Nat.le_refl _)
  clear hc1 hg
  go_wp2_with fail
  refine (c_l6Any _ 5 _ hc2).mono ?_
  rintro e w3 ⟨l, r, rfl, hc3, hg⟩
  replace hb := below_cur hb hg (Nat.le_refl _)
  clear hc2 hg
  go_wp2_with fail
  refine Calls.mono (c_specFormatDep l r _) ?_
  rintro e w4 ⟨rfl, hbn⟩
  replace hb := bel_to hb hbn
  replace hc3 := hc3.keep hbn
  clear hbn
  have hfl := fmtD_len l r
  generalize fmtD l r = s at *
  go_wp2_with fail
  refine (c_l1Below _ 4 (by omega) _ hc3).mono ?_
  rintro e w5 ⟨q, rfl, _, _, _, hc5, hg⟩
  replace hb := below_cur hb hg (Nat.le_refl _)
  clear hc3 hg
  by_cases e0 : q = 0
  · go_wp2_with fail
    have H := c_l1Spoil _ s (by omega) _ hc5
    unfold DrawsS at H
    refine H.mono ?_
    clear H
    rintro e w6 ⟨l6, rfl, hl6, hc6, hg⟩
    replace hb := below_cur hb hg (Nat.le_refl _)
    clear hc5 hg
    go_wp2
    exact bodyPost_ret (v := .tuple #[.int .i64 n, .string (bs l6)]) (by simp [results, Try.results16, go_sem]) rfl ⟨n, l6, rfl, by omega, hb⟩
  by_cases e1 : q = 1
  · have hL : ∀ T, ∀ j, j < parseL.length → (w5.alloc (.cells #[.string ⟨#[]⟩, .string ⟨#[65, 62, 66]⟩, .string ⟨#[110, 111, 110, 101, 62, 65]⟩, .string ⟨#[65, 62, 65, 66]⟩, .string ⟨#[65, 62]⟩, .string ⟨#[66, 65, 62, 67]⟩, .string ⟨#[65, 62, 110, 111, 110, 101]⟩, .string ⟨#[65, 45, 62, 66]⟩, .string ⟨#[69, 62, 65]⟩] T)).cell? ⟨w5.heap.size, j, none⟩ = some (.string (bs (parseL.getD j []))) := fun T j hj => by
      simp only [World.cell?, heap_alloc_new]
      match j, hj with
      | 0, _ => rfl
      | 1, _ => rfl
      | 2, _ => rfl
      | 3, _ => rfl
      | 4, _ => rfl
      | 5, _ => rfl
      | 6, _ => rfl
      | 7, _ => rfl
      | 8, _ => rfl
    have hlt5 := hc5.lt
    have hba := fun ob => (Below.refl w5.heap.size w5).alloc (Nat.le_refl _) ob
    go_wp2_with fail
    refine (c_l1Pick _ w5.heap.size 9 parseL (by decide) (by decide) _ (cur_alloc hc5 _) (by omega) (by simp) (hL _)).mono ?_
    rintro e w6 ⟨j, rfl, hj, hc6, hg⟩
    replace hb := below_cur (bel_to hb (hba _)) hg (Nat.le_refl _)
    clear hc5 hg
    have hl6 := parseL_len j
    generalize parseL.getD j [] = l6 at *
    go_wp2
    exact bodyPost_ret (v := .tuple #[.int .i64 n, .string (bs l6)]) (by simp [results, Try.results16, go_sem]) rfl ⟨n, l6, rfl, by omega, hb⟩
  · go_wp2
    exact bodyPost_ret (v := .tuple #[.int .i64 n, .string (bs s)]) (by simp [results, Try.results16, go_sem]) rfl ⟨n, s, rfl, by omega, hb⟩
end Go.Proofs.Ytcenndlbhgfdfaa
namespace Go.Proofs.Ytcenndlbhgfdfaa
open Go.RowKit
set_option linter.unusedVariables false
set_option maxRecDepth 100000

def parseF (n : Int) (l : List UInt8) : Int × Int × Bool := match cutF l [] with
  | [a, b] => if paB a && (paB b && ((membersF (paN b)).length == 1 && isDepF n (paN a) (nth (membersF (paN b)) 0))) then (paN a, nth (membersF (paN b)) 0, true) else (0, 0, false)
  | _ => (0, 0, false)
theorem OwnS.cells {w : World} {base : Nat} {v : Value} {L : List (List UInt8)} (h : OwnS w base v L) : ∃ oa cap, v = .slice oa L.length cap ∧ (0 < L.length → ∃ g, oa = some ⟨g, 0, none⟩ ∧ ∀ j, j < L.length → w.cell? ⟨g, j, none⟩ = some (.string (bs (L.getD j [])))) := by
  obtain ⟨oa, cap, rfl, hc⟩ := owns_cells h
  refine ⟨oa, cap, rfl, fun h0 => ?_⟩
  obtain ⟨g, rfl, _, _, _, hcell, _⟩ := hc h0
  refine ⟨g, rfl, fun j hj => ?_⟩
  rw [hcell j (by omega), List.getElem?_map, List.getElem?_eq_getElem hj]
  simp [encS, List.getD, List.getElem?_eq_getElem hj]
theorem nat_one (k : Nat) : ((k : Int) == 1) = (k == 1) := by
  rw [Bool.eq_iff_iff]; simp; omega
set_option maxHeartbeats 1600000 in
theorem c_specParseDep (n : Int) (l : List UInt8) (hl : l.length ≤ 1000) (w : World) (x y : Int) (t : Bool) (h9 : parseF n l = (x, y, t)) :
    Ans Try.prog 18 #[.int .i64 n, .string (bs l)] w (.tuple #[.agg #[.int .i64 x, .int .i64 y], .bool t]) := by
  unfold Ans
  have hb := (Below.refl w.heap.size w).alloc (Nat.le_refl _) (.cells #[.int .i64 0, .int .i64 0] 28)
  have kR := Blk.new w #[.int .i64 0, .int .i64 0] 28
  have HP : Hid (∀ a b, cutF l [] = [a, b] → (if paB a && (paB b && ((membersF (paN b)).length == 1 && isDepF n (paN a) (nth (membersF (paN b)) 0))) then (paN a, nth (membersF (paN b)) 0, true) else ((0 : Int), (0 : Int), false)) = (x, y, t)) := fun a b e => by rw [← h9]; unfold parseF; rw [e]
  have HZ : Hid ((cutF l []).length ≠ 2 → (0, 0, false) = (x, y, t)) := fun e => by
    rw [← h9]; unfold parseF
    split
    · next h => rw [h] at e; exact absurd rfl e
    · rfl
  have HL2 : Hid ((cutF l []).length = 2 → ∃ a b, cutF l [] = [a, b]) := fun e => by
    match hq : cutF l [], e with
    | [a, b], _ => exact ⟨a, b, rfl⟩
  clear h9
  go_enter Try.func18, Try.ntmps18
  go_wp2_with fail
  refine (c_l2Cut l hl _).mono ?_
  rintro e w2 ⟨v, rfl, hI, hbn⟩
  replace kR := kR.keep hbn; replace hb := bel_to (w := w) hb hbn; clear hbn
  obtain ⟨oP, cP, rfl, hcell⟩ := hI.cells
  clear hI
  generalize hPP : cutF l [] = P at *
  have HPP : Hid (cutF l [] = P) := hPP
  clear hPP
  by_cases h2 : P.length = 2
  · obtain ⟨a, b, rfl⟩ := HL2.out h2
    obtain ⟨g, rfl, hcell2⟩ := hcell (by simp)
    have p0 : w2.cell? ⟨g, 0, none⟩ = some (.string (bs a)) := hcell2 0 (by simp)
    have p1 : w2.cell? ⟨g, 1, none⟩ = some (.string (bs b)) := hcell2 1 (by simp)
    clear hcell hcell2 HZ HL2 h2
    have HR := HP.out a b rfl
    clear HP
    have HR2 : Hid (_ = (x, y, t)) := HR
    clear HR
    go_wp2_with fail
    refine Calls.mono (c_specParseAttributes a _) ?_
    rintro e w3 ⟨rfl, hbn⟩
    replace p1 := cell_keep p1 hbn
    replace kR := kR.keep hbn; replace hb := bel_to (w := w) hb hbn; clear hbn p0
    go_wp2_with fail
    refine Calls.mono (c_specParseAttributes b _) ?_
    rintro e w4 ⟨rfl, hbn⟩
    replace kR := kR.keep hbn; replace hb := bel_to (w := w) hb hbn; clear hbn p1
    have r0 := kR.cell 0 (.int .i64 0) rfl
    have r1 := kR.cell 1 (.int .i64 0) rfl
    have q0 := kR.free 0
    have q1 := kR.free 1
    cases ha : paB a
    · rw [ha] at HR2
      obtain ⟨rfl, rfl, rfl⟩ : x = 0 ∧ y = 0 ∧ t = false := by have := HR2.out; simp only [Bool.false_and, Bool.false_eq_true, if_false] at this; simp at this; exact ⟨this.1.symm, this.2.1.symm, this.2.2⟩
      go_wp2_with fail
      exact bodyPost_ret (v := .tuple #[.agg #[.int .i64 0, .int .i64 0], .bool false]) (by simp [results, Try.results18, go_sem, r0, r1]) rfl ⟨rfl, Below.setCell (p := (⟨w.heap.size, 1, none⟩ : Addr)) (Below.setCell (p := (⟨w.heap.size, 0, none⟩ : Addr)) hb (Nat.le_refl _) _) (Nat.le_refl _) _⟩
    cases hbB : paB b
    · rw [ha, hbB] at HR2
      obtain ⟨rfl, rfl, rfl⟩ : x = 0 ∧ y = 0 ∧ t = false := by have := HR2.out; simp only [Bool.false_and, Bool.true_and, Bool.false_eq_true, if_false] at this; simp at this; exact ⟨this.1.symm, this.2.1.symm, this.2.2⟩
      go_wp2_with fail
      exact bodyPost_ret (v := .tuple #[.agg #[.int .i64 0, .int .i64 0], .bool false]) (by simp [results, Try.results18, go_sem, r0, r1]) rfl ⟨rfl, Below.setCell (p := (⟨w.heap.size, 1, none⟩ : Addr)) (Below.setCell (p := (⟨w.heap.size, 0, none⟩ : Addr)) hb (Nat.le_refl _) _) (Nat.le_refl _) _⟩
    rw [ha, hbB] at HR2
    cases hc : ((membersF (paN b)).length == 1)
    · rw [hc] at HR2
      obtain ⟨rfl, rfl, rfl⟩ : x = 0 ∧ y = 0 ∧ t = false := by have := HR2.out; simp only [Bool.false_and, Bool.true_and, Bool.false_eq_true, if_false] at this; simp at this; exact ⟨this.1.symm, this.2.1.symm, this.2.2⟩
      have hci : (((membersF (paN b)).length : Int) == 1) = false := by rw [← hc]; exact nat_one _
      clear hc
      go_wp2_with (first | (go_at_call 47; refine Calls.mono (c_specCountMembers _ _) ?_; rintro e wz ⟨rfl, hbn⟩; replace kR := kR.keep hbn; replace hb := bel_to (w := w) hb hbn; replace r0 := cell_keep r0 hbn; replace r1 := cell_keep r1 hbn; have z0 := kR.free 0; have z1 := kR.free 1; clear hbn))
      exact bodyPost_ret (v := .tuple #[.agg #[.int .i64 0, .int .i64 0], .bool false]) (by simp [results, Try.results18, go_sem, r0, r1]) rfl ⟨rfl, Below.setCell (p := (⟨w.heap.size, 1, none⟩ : Addr)) (Below.setCell (p := (⟨w.heap.size, 0, none⟩ : Addr)) hb (Nat.le_refl _) _) (Nat.le_refl _) _⟩
    rw [hc] at HR2
    have hci : (((membersF (paN b)).length : Int) == 1) = true := by rw [← hc]; exact nat_one _
    have hm1 : Hid ((membersF (paN b)).length = 1) := (by simpa using hc : (membersF (paN b)).length = 1)
    clear hc
    clear r0 r1 q0 q1
    go_wp2_with (first | (go_at_call 47; refine Calls.mono (c_specCountMembers _ _) ?_; rintro e wz ⟨rfl, hbn⟩; replace kR := kR.keep hbn; replace hb := bel_to (w := w) hb hbn; clear hbn))
    refine (c_specMembers _ _).mono ?_
    rintro e w5 ⟨v, rfl, hM, hbn⟩
    replace kR := kR.keep hbn; replace hb := bel_to (w := w) hb hbn; clear hbn
    obtain ⟨oM, cM, rfl⟩ := hM.shape
    have hMI := hM.ints rfl (by rw [hm1.out]; decide)
    clear hM
    obtain ⟨bq, off, e', hbs, hcell⟩ := hMI.at_ (by rw [hm1.out]; decide)
    subst e'
    have hc0 : w5.cell? ⟨bq, off, none⟩ = some (.int .i64 (nth (membersF (paN b)) 0)) := hcell 0 (by rw [hm1.out]; decide)
    clear hcell hMI hbs
    have hml := hm1.out
    obtain ⟨z, HZ⟩ : ∃ z, Hid (nth (membersF (paN b)) 0 = z) := ⟨_, rfl⟩
    rw [HZ.out] at HR2 hc0
    rw [hml]
    clear hml
    go_upto_region 9 with fail
    have kD := Blk.new w5 #[.int .i64 (paN a), .int .i64 z] 28
    have hba := (Below.refl w5.heap.size w5).alloc (Nat.le_refl _) (.cells #[.int .i64 (paN a), .int .i64 z] 28)
    replace kR := kR.keep hba
    replace hb := bel_to (w := w) hb hba
    clear hba
    have e0 := kD.cell 0 (.int .i64 (paN a)) rfl
    have e1 := kD.cell 1 (.int .i64 z) rfl
    go_wp2_with fail
    cases hd : isDepF n (paN a) z
    · rw [hd] at HR2
      obtain ⟨rfl, rfl, rfl⟩ : x = 0 ∧ y = 0 ∧ t = false := by have := HR2.out; simp only [Bool.true_and, Bool.false_eq_true, if_false] at this; simp at this; exact ⟨this.1.symm, this.2.1.symm, this.2.2⟩
      refine Calls.mono (Ans.eqb (c_specIsDep n _ _ _) hd) ?_
      rintro e w6 ⟨rfl, hbn⟩
      replace kR := kR.keep hbn; replace hb := bel_to (w := w) hb hbn; replace kD := kD.keep hbn; clear hbn
      have r0 := kR.cell 0 (.int .i64 0) rfl
      have r1 := kR.cell 1 (.int .i64 0) rfl
      have q0 := kR.free 0
      have q1 := kR.free 1
      replace e0 := kD.cell 0 _ rfl
      replace e1 := kD.cell 1 _ rfl
      go_wp2_with fail
      exact bodyPost_ret (v := .tuple #[.agg #[.int .i64 0, .int .i64 0], .bool false]) (by simp [results, Try.results18, go_sem, r0, r1]) rfl ⟨rfl, Below.setCell (p := (⟨w.heap.size, 1, none⟩ : Addr)) (Below.setCell (p := (⟨w.heap.size, 0, none⟩ : Addr)) hb (Nat.le_refl _) _) (Nat.le_refl _) _⟩
    · rw [hd] at HR2
      obtain ⟨rfl, rfl, rfl⟩ : x = paN a ∧ y = z ∧ t = true := by have := HR2.out; simp only [Bool.true_and, if_true] at this; injection this with h1 h2; injection h2 with h2 h3; exact ⟨h1.symm, h2.symm, h3.symm⟩
      refine Calls.mono (Ans.eqb (c_specIsDep n _ _ _) hd) ?_
      rintro e w6 ⟨rfl, hbn⟩
      replace kR := kR.keep hbn; replace hb := bel_to (w := w) hb hbn; replace kD := kD.keep hbn; clear hbn
      have r0 := kR.cell 0 (.int .i64 0) rfl
      have r1 := kR.cell 1 (.int .i64 0) rfl
      have q0 := kR.free 0
      have q1 := kR.free 1
      replace e0 := kD.cell 0 _ rfl
      replace e1 := kD.cell 1 _ rfl
      go_wp2_with fail
      exact bodyPost_ret (v := .tuple #[.agg #[.int .i64 (paN a), .int .i64 y], .bool true]) (by simp [results, Try.results18, go_sem, r0, r1]) rfl ⟨rfl, Below.setCell (p := (⟨w.heap.size, 1, none⟩ : Addr)) (Below.setCell (p := (⟨w.heap.size, 0, none⟩ : Addr)) hb (Nat.le_refl _) _) (Nat.le_refl _) _⟩
  · obtain ⟨rfl, rfl, rfl⟩ : x = 0 ∧ y = 0 ∧ t = false := by have := HZ.out h2; simp at this; exact ⟨this.1.symm, this.2.1.symm, this.2.2⟩
    have r0 := kR.cell 0 (.int .i64 0) rfl
    have r1 := kR.cell 1 (.int .i64 0) rfl
    have q0 := kR.free 0
    have q1 := kR.free 1
    have hq : ((P.length : Int) != 2) = true := by simp; omega
    clear hcell h2
    go_wp2_with fail
    exact bodyPost_ret (v := .tuple #[.agg #[.int .i64 0, .int .i64 0], .bool false]) (by simp [results, Try.results18, go_sem, r0, r1]) rfl ⟨rfl, Below.setCell (p := (⟨w.heap.size, 1, none⟩ : Addr)) (Below.setCell (p := (⟨w.heap.size, 0, none⟩ : Addr)) hb (Nat.le_refl _) _) (Nat.le_refl _) _⟩
end Go.Proofs.Ytcenndlbhgfdfaa
namespace Go.Proofs.Ytcenndlbhgfdfaa
open Go.RowKit
set_option linter.unusedVariables false
set_option maxRecDepth 100000

theorem cut_nil : Lib.cut [] [62] = ([], [], false) := by unfold Lib.cut; simp [Lib.index]
theorem cut_hit (l : List UInt8) : Lib.cut (62 :: l) [62] = ([], l, true) := by
  unfold Lib.cut
  have : Lib.index (62 :: l) [62] = 0 := by simp [Lib.index, List.isPrefixOf]
  rw [this]; simp
theorem cut_miss {c : UInt8} (h : (c == 62) = false) (l : List UInt8) : Lib.cut (c :: l) [62] = (c :: (Lib.cut l [62]).1, (Lib.cut l [62]).2.1, (Lib.cut l [62]).2.2) := by
  have hp : ([62] : List UInt8).isPrefixOf (c :: l) = false := by
    have : ((62 : UInt8) == c) = false := by
      cases hq : ((62 : UInt8) == c)
      · rfl
      · have e := eq_of_beq hq
        subst e
        exact absurd h (by decide)
    simp only [List.isPrefixOf, this, Bool.false_and]
  have hi : Lib.index (c :: l) [62] = if Lib.index l [62] == -1 then -1 else Lib.index l [62] + 1 := by
    rw [Lib.index, hp]; simp
  have hg := Lib.index_ge l [62]
  unfold Lib.cut
  rw [hi]
  by_cases h1 : Lib.index l [62] = -1
  · rw [h1]; simp
  · have h2 : 0 ≤ Lib.index l [62] := by omega
    have h3 : (Lib.index l [62] == -1) = false := by simpa using h1
    rw [h3]
    simp only [Bool.false_eq_true, if_false]
    rw [if_pos (by omega), if_pos h2, show (Lib.index l [62] + 1).toNat = (Lib.index l [62]).toNat + 1 by omega]
    rfl
theorem cut_rel : ∀ (l p : List UInt8), ((Lib.cut l [62]).2.2 = true → cutF l p = (p ++ (Lib.cut l [62]).1) :: cutF (Lib.cut l [62]).2.1 [] ∧ l = (Lib.cut l [62]).1 ++ [62] ++ (Lib.cut l [62]).2.1) ∧ ((Lib.cut l [62]).2.2 = false → cutF l p = [p ++ l] ∧ (Lib.cut l [62]).2.1 = [] ∧ (Lib.cut l [62]).1 = l)
  | [], p => by rw [cut_nil]; simp [cutF]
  | c :: l, p => by
    cases h : (c == 62)
    · rw [cut_miss h]
      obtain ⟨h1, h2⟩ := cut_rel l (p ++ [c])
      refine ⟨fun e => ?_, fun e => ?_⟩
      · obtain ⟨e1, e2⟩ := h1 e
        refine ⟨?_, ?_⟩
        · rw [cutF, h]; simp only [Bool.false_eq_true, if_false]; rw [e1]; simp
        · simp only [List.cons_append]; rw [← e2]
      · obtain ⟨e1, e2, e3⟩ := h2 e
        refine ⟨?_, e2, by simp only; rw [e3]⟩
        rw [cutF, h]; simp only [Bool.false_eq_true, if_false]; rw [e1]; simp
    · have : c = 62 := by simpa using h
      subst this
      rw [cut_hit]
      simp [cutF]
theorem cutF_ne (l p : List UInt8) : ∃ x t, cutF l p = x :: t := by
  rcases h : (Lib.cut l [62]).2.2 with _ | _
  · exact ⟨_, _, ((cut_rel l p).2 h).1⟩
  · exact ⟨_, _, ((cut_rel l p).1 h).1⟩
theorem pa_some {s : List UInt8} {x : Nat} : ∀ {n}, paTo s n = some x → fmtA (x : Nat) = s ∧ x < n
  | 0, h => by cases h
  | n + 1, h => by
    rw [paTo] at h
    cases hp : paTo s n with
    | some y =>
      rw [hp] at h
      simp only [Option.some.injEq] at h
      subst h
      obtain ⟨h1, h2⟩ := pa_some hp
      exact ⟨h1, by omega⟩
    | none =>
      rw [hp] at h
      simp only at h
      split at h
      · next hh =>
        injection h with h
        subst h
        exact ⟨by simpa using hh, by omega⟩
      · cases h
theorem pa_of {s : List UInt8} (h : paB s = true) : ∃ x : Nat, x < 32 ∧ fmtA (x : Nat) = s ∧ paN s = x := by
  unfold paB at h
  obtain ⟨x, hx⟩ := Option.isSome_iff_exists.1 h
  obtain ⟨h1, h2⟩ := pa_some hx
  exact ⟨x, h2, h1, by unfold paN; rw [hx]⟩
theorem fmt_no : ∀ x < 32, (fmtA ((x : Nat) : Int)).contains 62 = false := by decide +kernel
theorem one_mem : ∀ y < 32, (membersF ((y : Nat) : Int)).length = 1 → 0 ≤ nth (membersF ((y : Nat) : Int)) 0 ∧ nth (membersF ((y : Nat) : Int)) 0 < 5 ∧ (2 : Int) ^ (nth (membersF ((y : Nat) : Int)) 0).toNat = ((y : Nat) : Int) := by decide +kernel
theorem pa_nil : paB [] = false := by decide +kernel
def parseI (n : Int) (l : List UInt8) : Int × Int × Bool :=
  if paB (Lib.cut l [62]).1 && (paB (Lib.cut l [62]).2.1 && ((membersF (paN (Lib.cut l [62]).2.1)).length == 1 && (isDepF n (paN (Lib.cut l [62]).1) (nth (membersF (paN (Lib.cut l [62]).2.1)) 0) && (fmtD (paN (Lib.cut l [62]).1) (nth (membersF (paN (Lib.cut l [62]).2.1)) 0) == l))))
  then (paN (Lib.cut l [62]).1, nth (membersF (paN (Lib.cut l [62]).2.1)) 0, true) else (0, 0, false)
/-- what is read is written back -/
theorem parse_back {a b : List UInt8} (ha : paB a = true) (hb : paB b = true) (h1 : (membersF (paN b)).length = 1) : fmtD (paN a) (nth (membersF (paN b)) 0) = a ++ [62] ++ b := by
  obtain ⟨x, x1, x2, x3⟩ := pa_of ha
  obtain ⟨y, y1, y2, y3⟩ := pa_of hb
  rw [y3] at h1 ⊢
  obtain ⟨z0, z5, zp⟩ := one_mem y y1 h1
  have hs : stB (paN a) = true := by rw [x3]; simp [stB, St]; omega
  rw [(fmtD_yes hs z0 z5).out, zp, x3, x2, y2]
theorem parse_eq (n : Int) (l : List UInt8) : parseI n l = parseF n l := by
  obtain ⟨h1, h2⟩ := cut_rel l []
  rcases h : (Lib.cut l [62]).2.2 with _ | _
  · obtain ⟨e1, e2, _⟩ := h2 h
    unfold parseI parseF
    rw [e2, pa_nil, e1]
    simp
  · obtain ⟨e1, e2⟩ := h1 h
    unfold parseI parseF
    rw [e1]
    generalize (Lib.cut l [62]).1 = a at *
    generalize (Lib.cut l [62]).2.1 = b at *
    obtain ⟨g1, g2⟩ := cut_rel b []
    rcases hb : (Lib.cut b [62]).2.2 with _ | _
    · obtain ⟨f1, _, _⟩ := g2 hb
      rw [f1]
      simp only [List.nil_append]
      cases ha : paB a
      · simp
      cases hbb : paB b
      · simp
      cases hm : ((membersF (paN b)).length == 1)
      · simp
      have hm' : (membersF (paN b)).length = 1 := by simpa using hm
      have := parse_back ha hbb hm'
      rw [this, ← e2]
      simp
    · obtain ⟨f1, f2⟩ := g1 hb
      obtain ⟨x, t, f3⟩ := cutF_ne (Lib.cut b [62]).2.1 []
      have : paB b = false := by
        cases hp : paB b
        · rfl
        · exfalso
          obtain ⟨y, y1, y2, _⟩ := pa_of hp
          have := fmt_no y y1
          rw [y2, f2] at this
          simp at this
      rw [this, f1, f3]
      simp
end Go.Proofs.Ytcenndlbhgfdfaa
namespace Go.Proofs.Ytcenndlbhgfdfaa
open Go.RowKit
set_option linter.unusedVariables false
set_option maxRecDepth 100000

theorem below_drewN {B : Nat} {w0 w : World} (h : Below B w0 w) (n : Nat) : Below B w0 (w.drewN n) := ⟨h.os, h.tape, h.output, h.size, h.block⟩
theorem c_Cut62 (l : List UInt8) (hl : l.length ≤ 1000) (m : Int) (w : World) (hm : w.cell? ⟨0, 0, none⟩ = some (.int .i64 m)) :
    Ans Try.prog 41 #[.string (bs l), .string ⟨#[62]⟩] w (.tuple #[.string (bs (Lib.cut l [62]).1), .string (bs (Lib.cut l [62]).2.1), .bool (Lib.cut l [62]).2.2]) := by
  unfold Ans
  have h := Try.strings_Cut (bs l) ⟨#[62]⟩ m w (by rw [bs_size]; omega) hm
  have e1 : (bs l).data.toList = l := by simp [bs]
  have e2 : (ByteArray.mk #[62]).data.toList = [62] := rfl
  rw [e1, e2] at h
  refine h.mono ?_
  rintro e w' ⟨rfl, n, rfl⟩
  exact ⟨rfl, below_drewN (Below.refl _ _) n⟩
theorem c_CountMembers (x : Int) (w : World) : Ans Try.prog 43 #[.int .i64 x] w (.int .i64 (membersF x).length) := by
  unfold Ans
  go_enter Try.func43, Try.ntmps43
  go_wp2_with fail
  refine (c_Members x _).mono ?_
  rintro e w2 ⟨v, rfl, hM, hb⟩
  obtain ⟨oM, cM, rfl⟩ := hM.shape
  go_wp2
  go_ret
  exact ⟨rfl, hb⟩
set_option maxHeartbeats 3200000 in
theorem c_ParseDep (n : Int) (l : List UInt8) (hl : l.length ≤ 1000) (m : Int) (w : World) (hm : w.cell? ⟨0, 0, none⟩ = some (.int .i64 m)) (x y : Int) (t : Bool) (h9 : parseF n l = (x, y, t)) :
    Ans Try.prog 17 #[.int .i64 n, .string (bs l)] w (.tuple #[.agg #[.int .i64 x, .int .i64 y], .bool t]) := by
  unfold Ans
  have hb := (Below.refl w.heap.size w).alloc (Nat.le_refl _) (.cells #[.int .i64 0, .int .i64 0] 28)
  have kR := Blk.new w #[.int .i64 0, .int .i64 0] 28
  have hm2 := cell_keep hm hb
  clear hm
  rw [← parse_eq] at h9
  obtain ⟨a, haa⟩ : ∃ a, (Lib.cut l [62]).1 = a := ⟨_, rfl⟩
  obtain ⟨b, hbb⟩ : ∃ b, (Lib.cut l [62]).2.1 = b := ⟨_, rfl⟩
  obtain ⟨z, HZ⟩ : ∃ z, Hid (nth (membersF (paN b)) 0 = z) := ⟨_, rfl⟩
  have HR : Hid ((if paB a && (paB b && ((membersF (paN b)).length == 1 && (isDepF n (paN a) z && (fmtD (paN a) z == l)))) then (paN a, z, true) else ((0 : Int), (0 : Int), false)) = (x, y, t)) := by
    show _ = _
    rw [← h9]; unfold parseI; rw [haa, hbb, HZ.out]
  have HA : Hid ((Lib.cut l [62]).1 = a) := haa
  have HB : Hid ((Lib.cut l [62]).2.1 = b) := hbb
  clear haa hbb h9
  go_enter Try.func17, Try.ntmps17
  go_wp2_with fail
  refine Calls.mono (c_Cut62 l hl m _ hm2) ?_
  rintro e w2 ⟨rfl, hbn⟩
  replace kR := kR.keep hbn; replace hb := bel_to (w := w) hb hbn; clear hbn hm2
  rw [HA.out, HB.out]
  generalize (Lib.cut l [62]).2.2 = fnd
  go_wp2_with fail
  refine Calls.mono (c_ParseAttributes a _) ?_
  rintro e w3 ⟨rfl, hbn⟩
  replace kR := kR.keep hbn; replace hb := bel_to (w := w) hb hbn; clear hbn
  go_wp2_with fail
  refine Calls.mono (c_ParseAttributes b _) ?_
  rintro e w4 ⟨rfl, hbn⟩
  replace kR := kR.keep hbn; replace hb := bel_to (w := w) hb hbn; clear hbn
  have r0 := kR.cell 0 (.int .i64 0) rfl
  have r1 := kR.cell 1 (.int .i64 0) rfl
  have q0 := kR.free 0
  have q1 := kR.free 1
  cases ha : paB a
  · rw [ha] at HR
    obtain ⟨rfl, rfl, rfl⟩ : x = 0 ∧ y = 0 ∧ t = false := by have := HR.out; simp only [Bool.false_and, Bool.true_and, Bool.false_eq_true, if_false] at this; simp at this; exact ⟨this.1.symm, this.2.1.symm, this.2.2⟩
    go_wp2_with fail
    exact bodyPost_ret (v := .tuple #[.agg #[.int .i64 0, .int .i64 0], .bool false]) (by simp [results, Try.results17, go_sem, r0, r1]) rfl ⟨rfl, Below.setCell (p := (⟨w.heap.size, 1, none⟩ : Addr)) (Below.setCell (p := (⟨w.heap.size, 0, none⟩ : Addr)) hb (Nat.le_refl _) _) (Nat.le_refl _) _⟩
  cases hbB : paB b
  · rw [ha, hbB] at HR
    obtain ⟨rfl, rfl, rfl⟩ : x = 0 ∧ y = 0 ∧ t = false := by have := HR.out; simp only [Bool.false_and, Bool.true_and, Bool.false_eq_true, if_false] at this; simp at this; exact ⟨this.1.symm, this.2.1.symm, this.2.2⟩
    go_wp2_with fail
    exact bodyPost_ret (v := .tuple #[.agg #[.int .i64 0, .int .i64 0], .bool false]) (by simp [results, Try.results17, go_sem, r0, r1]) rfl ⟨rfl, Below.setCell (p := (⟨w.heap.size, 1, none⟩ : Addr)) (Below.setCell (p := (⟨w.heap.size, 0, none⟩ : Addr)) hb (Nat.le_refl _) _) (Nat.le_refl _) _⟩
  rw [ha, hbB] at HR
  cases hc : ((membersF (paN b)).length == 1)
  · rw [hc] at HR
    obtain ⟨rfl, rfl, rfl⟩ : x = 0 ∧ y = 0 ∧ t = false := by have := HR.out; simp only [Bool.false_and, Bool.true_and, Bool.false_eq_true, if_false] at this; simp at this; exact ⟨this.1.symm, this.2.1.symm, this.2.2⟩
    have hci : (((membersF (paN b)).length : Int) == 1) = false := by rw [← hc]; exact nat_one _
    clear hc
    go_wp2_with (first | (go_at_call 43; refine Calls.mono (c_CountMembers _ _) ?_; rintro e wz ⟨rfl, hbn⟩; replace kR := kR.keep hbn; replace hb := bel_to (w := w) hb hbn; replace r0 := cell_keep r0 hbn; replace r1 := cell_keep r1 hbn; have z0 := kR.free 0; have z1 := kR.free 1; clear hbn))
    exact bodyPost_ret (v := .tuple #[.agg #[.int .i64 0, .int .i64 0], .bool false]) (by simp [results, Try.results17, go_sem, r0, r1]) rfl ⟨rfl, Below.setCell (p := (⟨w.heap.size, 1, none⟩ : Addr)) (Below.setCell (p := (⟨w.heap.size, 0, none⟩ : Addr)) hb (Nat.le_refl _) _) (Nat.le_refl _) _⟩
  rw [hc] at HR
  have hci : (((membersF (paN b)).length : Int) == 1) = true := by rw [← hc]; exact nat_one _
  have hm1 : Hid ((membersF (paN b)).length = 1) := (by simpa using hc : (membersF (paN b)).length = 1)
  clear hc
  clear r0 r1 q0 q1
  go_wp2_with (first | (go_at_call 43; refine Calls.mono (c_CountMembers _ _) ?_; rintro e wz ⟨rfl, hbn⟩; replace kR := kR.keep hbn; replace hb := bel_to (w := w) hb hbn; clear hbn))
  refine (c_Members _ _).mono ?_
  rintro e w5 ⟨v, rfl, hM, hbn⟩
  replace kR := kR.keep hbn; replace hb := bel_to (w := w) hb hbn; clear hbn
  obtain ⟨oM, cM, rfl⟩ := hM.shape
  have hMI := hM.ints rfl (by rw [hm1.out]; decide)
  clear hM
  obtain ⟨bq, off, e', hbs, hcell⟩ := hMI.at_ (by rw [hm1.out]; decide)
  subst e'
  have hc0 : w5.cell? ⟨bq, off, none⟩ = some (.int .i64 (nth (membersF (paN b)) 0)) := hcell 0 (by rw [hm1.out]; decide)
  clear hcell hMI hbs
  have hml := hm1.out
  rw [HZ.out] at hc0
  rw [hml]
  clear hml
  go_upto_region 7 with fail
  have kD := Blk.new w5 #[.int .i64 (paN a), .int .i64 z] 28
  have hba := (Below.refl w5.heap.size w5).alloc (Nat.le_refl _) (.cells #[.int .i64 (paN a), .int .i64 z] 28)
  replace kR := kR.keep hba
  replace hb := bel_to (w := w) hb hba
  clear hba
  have e0 := kD.cell 0 (.int .i64 (paN a)) rfl
  have e1 := kD.cell 1 (.int .i64 z) rfl
  go_wp2_with fail
  cases hd : isDepF n (paN a) z
  · rw [hd] at HR
    obtain ⟨rfl, rfl, rfl⟩ : x = 0 ∧ y = 0 ∧ t = false := by have := HR.out; simp only [Bool.false_and, Bool.true_and, Bool.false_eq_true, if_false] at this; simp at this; exact ⟨this.1.symm, this.2.1.symm, this.2.2⟩
    refine Calls.mono (Ans.eqb (c_isDep n _ _ _) hd) ?_
    rintro e w6 ⟨rfl, hbn⟩
    replace kR := kR.keep hbn; replace hb := bel_to (w := w) hb hbn; replace kD := kD.keep hbn; clear hbn
    have r0 := kR.cell 0 (.int .i64 0) rfl
    have r1 := kR.cell 1 (.int .i64 0) rfl
    have q0 := kR.free 0
    have q1 := kR.free 1
    replace e0 := kD.cell 0 _ rfl
    replace e1 := kD.cell 1 _ rfl
    go_wp2_with fail
    exact bodyPost_ret (v := .tuple #[.agg #[.int .i64 0, .int .i64 0], .bool false]) (by simp [results, Try.results17, go_sem, r0, r1]) rfl ⟨rfl, Below.setCell (p := (⟨w.heap.size, 1, none⟩ : Addr)) (Below.setCell (p := (⟨w.heap.size, 0, none⟩ : Addr)) hb (Nat.le_refl _) _) (Nat.le_refl _) _⟩
  rw [hd] at HR
  refine Calls.mono (Ans.eqb (c_isDep n _ _ _) hd) ?_
  rintro e w6 ⟨rfl, hbn⟩
  replace kR := kR.keep hbn; replace hb := bel_to (w := w) hb hbn; replace kD := kD.keep hbn; clear hbn
  replace e0 := kD.cell 0 _ rfl
  replace e1 := kD.cell 1 _ rfl
  go_wp2_with fail
  refine Calls.mono (c_FormatDep _ _ _) ?_
  rintro e w7 ⟨rfl, hbn⟩
  replace kR := kR.keep hbn; replace hb := bel_to (w := w) hb hbn; replace kD := kD.keep hbn; clear hbn
  have r0 := kR.cell 0 (.int .i64 0) rfl
  have r1 := kR.cell 1 (.int .i64 0) rfl
  have q0 := kR.free 0
  have q1 := kR.free 1
  replace e0 := kD.cell 0 _ rfl
  replace e1 := kD.cell 1 _ rfl
  cases hf : (fmtD (paN a) z == l)
  · rw [hf] at HR
    obtain ⟨rfl, rfl, rfl⟩ : x = 0 ∧ y = 0 ∧ t = false := by have := HR.out; simp only [Bool.false_and, Bool.true_and, Bool.false_eq_true, if_false] at this; simp at this; exact ⟨this.1.symm, this.2.1.symm, this.2.2⟩
    have hfi : ((bs (fmtD (paN a) z)).toList == (bs l).toList) = false := by rw [bs_list, bs_list]; exact hf
    clear hf
    go_wp2_with fail
    exact bodyPost_ret (v := .tuple #[.agg #[.int .i64 0, .int .i64 0], .bool false]) (by simp [results, Try.results17, go_sem, r0, r1]) rfl ⟨rfl, Below.setCell (p := (⟨w.heap.size, 1, none⟩ : Addr)) (Below.setCell (p := (⟨w.heap.size, 0, none⟩ : Addr)) hb (Nat.le_refl _) _) (Nat.le_refl _) _⟩
  rw [hf] at HR
  obtain ⟨rfl, rfl, rfl⟩ : x = paN a ∧ y = z ∧ t = true := by have := HR.out; simp only [Bool.true_and, if_true] at this; injection this with h1 h2; injection h2 with h2 h3; exact ⟨h1.symm, h2.symm, h3.symm⟩
  have hfi : ((bs (fmtD (paN a) y)).toList == (bs l).toList) = true := by rw [bs_list, bs_list]; exact hf
  clear hf
  go_wp2_with fail
  exact bodyPost_ret (v := .tuple #[.agg #[.int .i64 (paN a), .int .i64 y], .bool true]) (by simp [results, Try.results17, go_sem, r0, r1]) rfl ⟨rfl, Below.setCell (p := (⟨w.heap.size, 1, none⟩ : Addr)) (Below.setCell (p := (⟨w.heap.size, 0, none⟩ : Addr)) hb (Nat.le_refl _) _) (Nat.le_refl _) _⟩
end Go.Proofs.Ytcenndlbhgfdfaa
namespace Go.Proofs.Ytcenndlbhgfdfaa
open Go.RowKit
set_option linter.unusedVariables false
set_option maxRecDepth 100000

/-- x is the set in which two rows agree, the second of them before place i; or the second is i and the first before place j. -/
def agP (R : List (List Int)) (m : Int) (i j : Nat) (x : Int) : Prop := (∃ b, b < i ∧ ∃ a, a < b ∧ agreeF m (row R a) (row R b) = x) ∨ ∃ a, a < j ∧ agreeF m (row R a) (row R i) = x
/-- the same, first rows before place i; or the first is i and the second behind it and before place j -/
def agQ (R : List (List Int)) (m : Int) (i j : Nat) (x : Int) : Prop := (∃ a, a < i ∧ ∃ b, b < R.length ∧ a < b ∧ agreeF m (row R a) (row R b) = x) ∨ ∃ b, b < j ∧ i < b ∧ agreeF m (row R i) (row R b) = x
def agPB (R : List (List Int)) (m : Int) (i j : Nat) (x : Int) : Bool := ((List.range i).any fun b => (List.range b).any fun a => agreeF m (row R a) (row R b) == x) || (List.range j).any fun a => agreeF m (row R a) (row R i) == x
def agQB (R : List (List Int)) (m : Int) (i j : Nat) (x : Int) : Bool := ((List.range i).any fun a => (List.range R.length).any fun b => decide (a < b) && (agreeF m (row R a) (row R b) == x)) || (List.range j).any fun b => decide (i < b) && (agreeF m (row R i) (row R b) == x)
theorem agPB_iff {R : List (List Int)} {m : Int} {i j : Nat} {x : Int} : agPB R m i j x = true ↔ agP R m i j x := by
  unfold agPB agP
  simp [List.any_eq_true]
theorem agQB_iff {R : List (List Int)} {m : Int} {i j : Nat} {x : Int} : agQB R m i j x = true ↔ agQ R m i j x := by
  unfold agQB agQ
  simp [List.any_eq_true]
def agreeSetsF (n : Int) (R : List (List Int)) (m : Int) : List Int := if isTabF n R && modeF m then flt (agPB R m R.length 0) 32 else []
theorem eqCell_comm (m a b : Int) : eqCellF m a b = eqCellF m b a := by
  unfold eqCellF
  by_cases h : a = b
  · subst h; rfl
  · have h1 : (a == b) = false := by simpa using h
    have h2 : (b == a) = false := by simpa using (fun e : b = a => h e.symm)
    rw [h1, h2]; simp
theorem agree_comm {m : Int} {A B : List Int} (h : A.length = B.length) : agreeF m A B = agreeF m B A := by
  unfold agreeF
  rw [h]
  congr 1
  funext x c
  unfold agreeStep
  rw [eqCell_comm]
theorem agPB_step (R : List (List Int)) (m : Int) (i j : Nat) (hij : j < i) : (fun x => agPB R m i j x || x == agreeF m (row R j) (row R i)) = agPB R m i (j + 1) := by
  funext x
  rw [Bool.eq_iff_iff, Bool.or_eq_true, agPB_iff, agPB_iff]
  unfold agP
  constructor
  · rintro ((h | ⟨a, ha, e⟩) | e)
    · exact .inl h
    · exact .inr ⟨a, by omega, e⟩
    · exact .inr ⟨j, by omega, by simpa using (beq_iff_eq.1 e).symm⟩
  · rintro (h | ⟨a, ha, e⟩)
    · exact .inl (.inl h)
    · by_cases hj : a = j
      · subst hj; exact .inr (by simp [e])
      · exact .inl (.inr ⟨a, by omega, e⟩)
theorem agPB_next (R : List (List Int)) (m : Int) (i : Nat) : agPB R m i i = agPB R m (i + 1) 0 := by
  funext x
  rw [Bool.eq_iff_iff, agPB_iff, agPB_iff]
  unfold agP
  constructor
  · rintro (⟨b, hb, h⟩ | ⟨a, ha, e⟩)
    · exact .inl ⟨b, by omega, h⟩
    · exact .inl ⟨i, by omega, a, ha, e⟩
  · rintro (⟨b, hb, a, ha, e⟩ | ⟨a, ha, _⟩)
    · by_cases h : b = i
      · subst h; exact .inr ⟨a, ha, e⟩
      · exact .inl ⟨b, by omega, a, ha, e⟩
    · omega
theorem agQB_step (R : List (List Int)) (m : Int) (i j : Nat) (hij : i < j) : (fun x => agQB R m i j x || x == agreeF m (row R i) (row R j)) = agQB R m i (j + 1) := by
  funext x
  rw [Bool.eq_iff_iff, Bool.or_eq_true, agQB_iff, agQB_iff]
  unfold agQ
  constructor
  · rintro ((h | ⟨b, hb, hib, e⟩) | e)
    · exact .inl h
    · exact .inr ⟨b, by omega, hib, e⟩
    · exact .inr ⟨j, by omega, hij, by simpa using (beq_iff_eq.1 e).symm⟩
  · rintro (h | ⟨b, hb, hib, e⟩)
    · exact .inl (.inl h)
    · by_cases hj : b = j
      · subst hj; exact .inr (by simp [e])
      · exact .inl (.inr ⟨b, by omega, hib, e⟩)
theorem agQB_next (R : List (List Int)) (m : Int) (i : Nat) (hi : i < R.length) : agQB R m i R.length = agQB R m (i + 1) (i + 2) := by
  funext x
  rw [Bool.eq_iff_iff, agQB_iff, agQB_iff]
  unfold agQ
  constructor
  · rintro (⟨a, ha, h⟩ | ⟨b, hb, hib, e⟩)
    · exact .inl ⟨a, by omega, h⟩
    · exact .inl ⟨i, by omega, b, hb, hib, e⟩
  · rintro (⟨a, ha, b, hb, hab, e⟩ | ⟨b, hb, hib, _⟩)
    · by_cases h : a = i
      · subst h; exact .inr ⟨b, hb, hab, e⟩
      · exact .inl ⟨a, by omega, b, hb, hab, e⟩
    · omega
theorem agQB_first (R : List (List Int)) (m : Int) (i : Nat) : agQB R m i (i + 1) = agQB R m i 0 := by
  funext x
  rw [Bool.eq_iff_iff, agQB_iff, agQB_iff]
  unfold agQ
  constructor
  · rintro (h | ⟨b, hb, hib, _⟩)
    · exact .inl h
    · omega
  · rintro (h | ⟨b, hb, _⟩)
    · exact .inl h
    · omega
theorem agQB_all (R : List (List Int)) (m : Int) : agQB R m R.length 0 = agPB R m R.length 0 := by
  funext x
  rw [Bool.eq_iff_iff, agQB_iff, agPB_iff]
  unfold agQ agP
  constructor
  · rintro (⟨a, ha, b, hb, hab, e⟩ | ⟨b, hb, _⟩)
    · exact .inl ⟨b, hb, a, hab, e⟩
    · omega
  · rintro (⟨b, hb, a, ha, e⟩ | ⟨b, hb, _⟩)
    · exact .inl ⟨a, by omega, b, hb, ha, e⟩
    · omega
theorem agQB_none (R : List (List Int)) (m : Int) : flt (agQB R m 0 0) 32 = [] := by
  have : agQB R m 0 0 = fun _ => false := by
    funext x
    rw [Bool.eq_iff_iff, agQB_iff]
    unfold agQ
    constructor
    · rintro (⟨a, ha, _⟩ | ⟨b, hb, _⟩) <;> omega
    · intro h; cases h
  rw [this]; unfold flt; simp
/-- What the list holds, as it grows. -/
def AgL (R : List (List Int)) (m : Int) (i j : Nat) (L : List Int) : Prop := (∀ x, x ∈ L ↔ agP R m i j x) ∧ (∀ x ∈ L, St x) ∧ L.length ≤ 40 * i + j
theorem AgL.none (R : List (List Int)) (m : Int) : AgL R m 0 0 [] := by
  refine ⟨fun x => ⟨fun h => (by cases h), fun h => ?_⟩, fun x hx => (by cases hx), Nat.zero_le _⟩
  unfold agP at h
  rcases h with ⟨b, hb, _⟩ | ⟨a, ha, _⟩
  · omega
  · omega
theorem AgL.distinct {R : List (List Int)} {m : Int} {L : List Int} (h : AgL R m R.length 0 L) : distinctF L = flt (agPB R m R.length 0) 32 := by
  rw [distinctF_flt h.2.1]
  congr 1
  funext x
  rw [Bool.eq_iff_iff, agPB_iff, ← h.1]
  unfold inB'
  simp
theorem AgL.snoc {R : List (List Int)} {m : Int} {i j : Nat} {L : List Int} (h : AgL R m i j L) (hij : j < i) {x : Int} (hx : x = agreeF m (row R j) (row R i)) (hs : St x) : AgL R m i (j + 1) (L ++ [x]) := by
  refine ⟨fun y => ?_, fun y hy => ?_, by simp; have := h.2.2; omega⟩
  · have e := congrFun (agPB_step R m i j hij) y
    rw [List.mem_append, List.mem_singleton, h.1, ← agPB_iff (j := j + 1), ← e, Bool.or_eq_true, agPB_iff, hx]
    simp
  · rcases List.mem_append.1 hy with hy | hy
    · exact h.2.1 y hy
    · simp at hy; subst hy; exact hs
theorem AgL.next {R : List (List Int)} {m : Int} {i : Nat} {L : List Int} (h : AgL R m i i L) (hi : i ≤ 40) : AgL R m (i + 1) 0 L := by
  refine ⟨fun y => ?_, h.2.1, by have := h.2.2; omega⟩
  have e := congrFun (agPB_next R m i) y
  rw [h.1, ← agPB_iff, e, agPB_iff]
theorem agreeSets_st {n : Int} {R : List (List Int)} {m : Int} : ∀ x ∈ agreeSetsF n R m, St x := by
  unfold agreeSetsF
  split
  · intro x hx; have := (flt_mem.1 hx).1; exact ⟨by omega, by omega⟩
  · intro x hx; cases hx
theorem agreeSets_len (n : Int) (R : List (List Int)) (m : Int) : (agreeSetsF n R m).length ≤ 32 := by
  unfold agreeSetsF
  split
  · exact flt_le _ _
  · simp
end Go.Proofs.Ytcenndlbhgfdfaa
namespace Go.Proofs.Ytcenndlbhgfdfaa
open Go.RowKit
set_option linter.unusedVariables false
set_option maxRecDepth 100000

theorem cnt_pos (p : Nat → Bool) : ∀ (t j : Nat), j < t → p j = true → 1 ≤ cntN p t
  | 0, j, h, _ => by omega
  | t + 1, j, h, hp => by
    rw [cnt_succ]
    by_cases e : j = t
    · subst e; rw [hp]; simp
    · have := cnt_pos p t j (by omega) hp; omega
theorem cnt_two (p : Nat → Bool) : ∀ (t a b : Nat), a < b → b < t → p a = true → p b = true → 2 ≤ cntN p t
  | 0, a, b, _, h, _, _ => by omega
  | t + 1, a, b, hab, h, ha, hb => by
    rw [cnt_succ]
    by_cases e : b = t
    · subst e; rw [hb]; have := cnt_pos p b a hab ha; simp; omega
    · have := cnt_two p t a b hab (by omega) ha hb; omega
theorem cnt_compl (p : Nat → Bool) : ∀ t : Nat, cntN p t + cntN (fun j => !p j) t = t
  | 0 => by simp [cntN]
  | t + 1 => by
    rw [cnt_succ, cnt_succ]
    have := cnt_compl p t
    cases h : p t <;> simp <;> omega
theorem cnt_one (p : Nat → Bool) (k : Nat) : ∀ t : Nat, (∀ j, j < t → p j = true → j = k) → cntN p t ≤ if k < t then 1 else 0
  | 0, _ => by simp [cntN]
  | t + 1, h => by
    rw [cnt_succ]
    have ih := cnt_one p k t fun j hj hp => h j (by omega) hp
    cases hp : p t
    · simp only [Bool.false_eq_true, if_false, Nat.add_zero]
      refine Nat.le_trans ih ?_
      split <;> split <;> omega
    · have := h t (by omega) hp
      subst this
      simp at ih ⊢
      omega
theorem most_ge (R : List (List Int)) (m r : Int) (C : List Int) : ∀ (t k : Nat), k < t → 1 + (cntN (pairB R m r C k) C.length : Int) ≤ mostTo R m r C t
  | 0, k, h => by omega
  | t + 1, k, h => by
    rw [most_succ]
    by_cases e : k = t
    · subst e; exact Int.le_max_right _ _
    · exact Int.le_trans (most_ge R m r C t k (by omega)) (Int.le_max_left _ _)
theorem most_at (R : List (List Int)) (m r : Int) (C : List Int) : ∀ (t : Nat), mostTo R m r C t = 0 ∨ ∃ k, k < t ∧ mostTo R m r C t = 1 + (cntN (pairB R m r C k) C.length : Int)
  | 0 => .inl rfl
  | t + 1 => by
    rw [most_succ]
    rcases Int.le_total (mostTo R m r C t) (1 + (cntN (pairB R m r C t) C.length : Int)) with h | h
    · exact .inr ⟨t, by omega, Int.max_eq_right h⟩
    · rw [Int.max_eq_left h]
      rcases most_at R m r C t with e | ⟨k, hk, e⟩
      · exact .inl e
      · exact .inr ⟨k, by omega, e⟩
theorem pair_self (R : List (List Int)) (m r : Int) (C : List Int) (k : Nat) : pairB R m r C k k = false := by unfold pairB; simp
theorem cnt_pair_le (R : List (List Int)) (m r : Int) (C : List Int) {k : Nat} (hk : k < C.length) : cntN (pairB R m r C k) C.length + 1 ≤ C.length := by
  have h1 := cnt_compl (pairB R m r C k) C.length
  have h2 := cnt_pos (fun j => !pairB R m r C k j) C.length k hk (by rw [pair_self]; rfl)
  omega
theorem most_le (R : List (List Int)) (m r : Int) (C : List Int) : mostTo R m r C C.length ≤ C.length := by
  rcases most_at R m r C C.length with e | ⟨k, hk, e⟩
  · omega
  · have := cnt_pair_le R m r C hk; omega
/-- a class whose rows all agree, and one in which two rows differ -/
theorem most_full {R : List (List Int)} {m r : Int} {C : List Int} (hC : Up C) (h0 : 0 < C.length) (h : ∀ k j, k < C.length → j < C.length → k ≠ j → eqCellF m (cellF R (nth C k) r) (cellF R (nth C j) r) = true) : mostTo R m r C C.length = C.length := by
  have h1 := most_ge R m r C C.length 0 h0
  have h2 := most_le R m r C
  have h3 := cnt_compl (pairB R m r C 0) C.length
  have h4 := cnt_one (fun j => !pairB R m r C 0 j) 0 C.length fun j hj hp => by
    by_cases e : j = 0
    · exact e
    · have : pairB R m r C 0 j = true := by
        unfold pairB
        rw [up_ne hC h0 hj, h 0 j h0 hj (fun e' => e e'.symm)]
        simp; omega
      rw [this] at hp; cases hp
  rw [if_pos h0] at h4
  omega
theorem most_pairs {R : List (List Int)} {m r : Int} {C : List Int} (hC : Up C) (h : (C.length : Int) ≤ mostTo R m r C C.length) {a b : Nat} (ha : a < C.length) (hb : b < C.length) (hab : a ≠ b) : eqCellF m (cellF R (nth C a) r) (cellF R (nth C b) r) = true := by
  rcases most_at R m r C C.length with e | ⟨k, hk, e⟩
  · omega
  · have h1 := cnt_compl (pairB R m r C k) C.length
    have h2 := cnt_pair_le R m r C hk
    have all : ∀ j, j < C.length → j ≠ k → eqCellF m (cellF R (nth C k) r) (cellF R (nth C j) r) = true := fun j hj hne => by
      cases hp : pairB R m r C k j
      · exfalso
        have hq1 : (fun i => !pairB R m r C k i) j = true := by simp [hp]
        have hq2 : (fun i => !pairB R m r C k i) k = true := by simp [pair_self]
        rcases Nat.lt_or_gt_of_ne hne with h' | h'
        · have := cnt_two (fun i => !pairB R m r C k i) C.length j k h' hk hq1 hq2; omega
        · have := cnt_two (fun i => !pairB R m r C k i) C.length k j h' hj hq2 hq1; omega
      · unfold pairB at hp; rw [Bool.and_eq_true] at hp; exact hp.2
    by_cases ea : a = k
    · subst ea; exact all b hb (fun e' => hab e'.symm)
    · by_cases eb : b = k
      · subst eb; exact eqCell_symm (all a ha ea)
      · exact eqCell_trans (eqCell_symm (all a ha ea)) (all b hb eb)
theorem sum_le0 {R : List (List Int)} {m r : Int} {P : List (List Int)} (h : ∀ j, j < P.length → ((row P j).length : Int) ≤ mostTo R m r (row P j) (row P j).length) : ∀ t, t ≤ P.length → sumTo R m r P t ≤ 0
  | 0, _ => by simp [sumTo]
  | t + 1, ht => by
    rw [sum_succ]
    have := sum_le0 h t (by omega)
    have := h t (by omega)
    omega
theorem sum_ge {R : List (List Int)} {m r : Int} {P : List (List Int)} : ∀ t, t ≤ P.length → 0 ≤ sumTo R m r P t ∧ ∀ j, j < t → ((row P j).length : Int) - mostTo R m r (row P j) (row P j).length ≤ sumTo R m r P t
  | 0, _ => ⟨by simp [sumTo], fun j hj => by omega⟩
  | t + 1, ht => by
    obtain ⟨h1, h2⟩ := sum_ge (R := R) (m := m) (r := r) (P := P) t (by omega)
    have h3 := most_le R m r (row P t)
    rw [sum_succ]
    refine ⟨by omega, fun j hj => ?_⟩
    by_cases e : j = t
    · subst e; omega
    · have := h2 j (by omega); omega
theorem cell_agree {n m r : Int} {R : List (List Int)} (ht : isTabF n R = true) {i k : Nat} (hi : i < R.length) (hr0 : 0 ≤ r) (hr : r < n) : hasc (agreeF m (row R i) (row R k)) r = eqCellF m (cellF R i r) (cellF R k r) := by
  obtain ⟨h1, h5, _, hl⟩ := isTab_of ht
  have := hl i hi
  rw [hasc_agree ⟨hr0, by omega⟩ (by omega), decide_eq_true (by omega : r.toNat < (row R i).length)]
  unfold cellF
  simp
theorem same_symm {n m l : Int} {R : List (List Int)} (ht : isTabF n R = true) {i k : Nat} (hi : i < R.length) (hk : k < R.length) : sameB R m l i k = sameB R m l k i := by
  obtain ⟨_, _, _, hl⟩ := isTab_of ht
  unfold sameB
  rw [agree_comm (by have := hl i hi; have := hl k hk; omega)]
/-- the members of a class -/
theorem cls_memA {q : Nat → Nat → Bool} {j M a : Nat} {C : List Int} (e : C = clsTo q j M) (ha : a < C.length) : ∃ i : Nat, nth C a = i ∧ (i = j ∨ (j < i ∧ i < M ∧ q j i = true)) := by
  subst e
  have hm : nth (clsTo q j M) a ∈ clsTo q j M := List.mem_iff_getElem?.2 ⟨a, nth_eq ha⟩
  rcases cls_mem.1 hm with h | ⟨k, h, h1, h2, h3⟩
  · exact ⟨j, h, .inl rfl⟩
  · exact ⟨k, h, .inr ⟨h2, h1, h3⟩⟩
theorem cls_at {q : Nat → Nat → Bool} {j M i : Nat} (h : i = j ∨ (j < i ∧ i < M ∧ q j i = true)) : ∃ a, a < (clsTo q j M).length ∧ nth (clsTo q j M) a = i := by
  have hm : (i : Int) ∈ clsTo q j M := by
    unfold clsTo
    rcases h with rfl | ⟨h1, h2, h3⟩
    · exact List.mem_cons_self ..
    · exact List.mem_cons_of_mem _ (List.mem_map.2 ⟨i, List.mem_filter.2 ⟨List.mem_range.2 h2, by simp [h1, h3]⟩, rfl⟩)
  obtain ⟨a, ha⟩ := List.mem_iff_getElem?.1 hm
  have hl := (List.getElem?_eq_some_iff.1 ha).1
  exact ⟨a, hl, by have := nth_eq hl; rw [ha] at this; injection this with this; exact this.symm⟩
theorem ptn_class {q : Nat → Nat → Bool} {M j : Nat} (hj : j < (ptnQ q M M).length) : ∃ i, i < M ∧ headQ q M i = true ∧ row (ptnQ q M M) j = clsTo q i M := by
  have hm := row_mem hj
  unfold ptnQ at hm
  obtain ⟨i, hi, e⟩ := List.mem_map.1 hm
  obtain ⟨h1, h2⟩ := List.mem_filter.1 hi
  exact ⟨i, List.mem_range.1 h1, h2, by unfold ptnQ; exact e.symm⟩
theorem rr_holds {n m x r : Int} {R : List (List Int)} (ht : isTabF n R = true) (ha : askF n R m x r = true) : 0 ≤ rrF n R m x r ∧ (rrF n R m x r ≤ 0 ↔ holdsF R m x r = true) := by
  have ha' := ha
  unfold askF isDepF isAttr at ha'
  simp only [Bool.and_eq_true, decide_eq_true_eq] at ha'
  obtain ⟨_, ⟨⟨h1, ⟨⟨h0, h5⟩, hx0⟩, hx⟩, hr0⟩, hr⟩ := ha'
  have hp := pow_nat (n := n) (by omega) h5
  have sx : St x := ⟨hx0, by have := hp.1; have := hp.2.1; omega⟩
  have cr : Co r := ⟨hr0, by omega⟩
  have hper := same_per (m := m) ht sx
  have sym := fun i k => same_symm (m := m) (l := x) ht (i := i) (k := k)
  have hag := fun i k => cell_agree (m := m) ht (i := i) (k := k) (hr0 := hr0) (hr := hr)
  unfold rrF
  rw [ha]
  simp only [if_true]
  obtain ⟨s1, s2⟩ := sum_ge (R := R) (m := m) (r := r) (P := ptnQ (sameB R m x) R.length R.length) _ (Nat.le_refl _)
  refine ⟨s1, ?_, ?_⟩
  · intro hs
    unfold holdsF
    refine decide_eq_true fun i hi k hk hik => ?_
    unfold violF
    cases hsame : ins x (agreeF m (row R i) (row R k))
    · rfl
    · have hq : sameB R m x i k = true := hsame
      rw [hag i k hi]
      -- the class that holds both
      suffices H : ∃ j0, j0 < R.length ∧ tkQ (sameB R m x) j0 j0 = false ∧ (i = j0 ∨ (j0 < i ∧ i < R.length ∧ sameB R m x j0 i = true)) by
        obtain ⟨j0, hj0, htk, hij⟩ := H
        have hkj : k = j0 ∨ (j0 < k ∧ k < R.length ∧ sameB R m x j0 k = true) := .inr (by
          rcases hij with rfl | ⟨h2, _, h3⟩
          · exact ⟨hik, hk, hq⟩
          · exact ⟨by omega, hk, hper.tr j0 i k hj0 hi h3 hq⟩)
        obtain ⟨a, hal, ea⟩ := cls_at (q := sameB R m x) hij
        obtain ⟨b, hbl, eb⟩ := cls_at (q := sameB R m x) hkj
        have hhead : headQ (sameB R m x) R.length j0 = true := by
          unfold headQ
          rw [htk]
          simp only [Bool.not_false, Bool.true_and, decide_eq_true_eq]
          have : a ≠ b := fun e => by subst e; rw [ea] at eb; omega
          omega
        have hmem : clsTo (sameB R m x) j0 R.length ∈ ptnQ (sameB R m x) R.length R.length := by
          unfold ptnQ
          exact List.mem_map.2 ⟨j0, List.mem_filter.2 ⟨List.mem_range.2 hj0, hhead⟩, rfl⟩
        obtain ⟨c, hc⟩ := List.mem_iff_getElem?.1 hmem
        have hcl := (List.getElem?_eq_some_iff.1 hc).1
        have hrow : row (ptnQ (sameB R m x) R.length R.length) c = clsTo (sameB R m x) j0 R.length := by unfold row List.getD; rw [hc]; rfl
        have h4 := s2 c hcl
        rw [hrow] at h4
        have := most_pairs (R := R) (m := m) (r := r) (C := clsTo (sameB R m x) j0 R.length) cls_up (by omega) hal hbl (fun e => by subst e; rw [ea] at eb; omega)
        rw [ea, eb] at this
        rw [this]; rfl
      -- the least index of the class
      have : ∀ t, t ≤ i → (∀ j, j < t → sameB R m x j i = false) ∨ ∃ j0, j0 < t ∧ sameB R m x j0 i = true ∧ ∀ j, j < j0 → sameB R m x j i = false := by
        intro t
        induction t with
        | zero => intro _; exact .inl fun j hj => by omega
        | succ t ih =>
          intro hti
          rcases ih (by omega) with h | ⟨j0, a1, a2, a3⟩
          · cases e : sameB R m x t i
            · exact .inl fun j hj => by
                by_cases e' : j = t
                · subst e'; exact e
                · exact h j (by omega)
            · exact .inr ⟨t, by omega, e, h⟩
          · exact .inr ⟨j0, by omega, a2, a3⟩
      rcases this i (Nat.le_refl _) with h | ⟨j0, a1, a2, a3⟩
      · refine ⟨i, hi, ?_, .inl rfl⟩
        cases e : tkQ (sameB R m x) i i
        · rfl
        · obtain ⟨j, hj, _, hji⟩ := tk_iff.1 e
          rw [h j hj] at hji; cases hji
      · refine ⟨j0, by omega, ?_, .inr ⟨a1, hi, a2⟩⟩
        cases e : tkQ (sameB R m x) j0 j0
        · rfl
        · obtain ⟨j, hj, _, hji⟩ := tk_iff.1 e
          have := hper.tr j j0 i (by omega) (by omega) hji a2
          rw [a3 j hj] at this; cases this
  · intro h
    unfold holdsF at h
    have h := of_decide_eq_true h
    refine sum_le0 (fun j hj => ?_) _ (Nat.le_refl _)
    obtain ⟨i0, hi0, hhead, e⟩ := ptn_class hj
    rw [e]
    have h0 : 0 < (clsTo (sameB R m x) i0 R.length).length := by unfold clsTo; simp
    rw [most_full cls_up h0 fun a b ha' hb' hab => ?_]
    · exact Int.le_refl _
    · obtain ⟨i, ei, hi⟩ := cls_memA (q := sameB R m x) rfl ha'
      obtain ⟨k, ek, hk⟩ := cls_memA (q := sameB R m x) rfl hb'
      have hil : i < R.length := by rcases hi with rfl | ⟨_, h2, _⟩; exact hi0; exact h2
      have hkl : k < R.length := by rcases hk with rfl | ⟨_, h2, _⟩; exact hi0; exact h2
      have hik : i ≠ k := fun e' => by
        subst e'
        have := up_ne (C := clsTo (sameB R m x) i0 R.length) cls_up ha' hb'
        rw [ei, ek] at this
        simp at this; exact hab this
      have hsame : sameB R m x i k = true := by
        rcases hi with rfl | ⟨_, _, h3⟩
        · rcases hk with rfl | ⟨_, _, h4⟩
          · exact absurd rfl hik
          · exact h4
        · rcases hk with rfl | ⟨_, _, h4⟩
          · rw [sym _ _ hil hkl]; exact h3
          · exact hper.tr i i0 k hil hi0 (by rw [sym _ _ hil hi0]; exact h3) h4
      rw [ei, ek]
      rcases Nat.lt_or_gt_of_ne hik with h' | h'
      · have hv := h i hil k hkl h'
        unfold violF at hv
        rw [show ins x (agreeF m (row R i) (row R k)) = true from hsame, Bool.true_and, hag i k hil] at hv
        simpa using hv
      · have hv := h k hkl i hil h'
        unfold violF at hv
        rw [show ins x (agreeF m (row R k) (row R i)) = true from by rw [sym _ _ hil hkl] at hsame; exact hsame, Bool.true_and, hag k i hkl] at hv
        exact eqCell_symm (by simpa using hv)
end Go.Proofs.Ytcenndlbhgfdfaa
namespace Go.Proofs.Ytcenndlbhgfdfaa
open Go.RowKit
set_option linter.unusedVariables false
set_option maxRecDepth 100000

def subT (R : List (List Int)) (s : Nat → Bool) (k : Nat) : List (List Int) := ((List.range k).filter s).map (row R)
theorem sub_succ (R : List (List Int)) (s : Nat → Bool) (k : Nat) : subT R s (k + 1) = subT R s k ++ (if s k then [row R k] else []) := by
  unfold subT
  rw [List.range_succ, List.filter_append, List.map_append]
  cases h : s k <;> simp [h]
theorem sub_len (R : List (List Int)) (s : Nat → Bool) (k : Nat) : (subT R s k).length = cntN s k := by unfold subT cntN; rw [List.length_map]
theorem sub_pos (s : Nat → Bool) {i : Nat} (hs : s i = true) : ∀ k, i < k → ((List.range k).filter s)[cntN s i]? = some i
  | 0, h => by omega
  | k + 1, h => by
    rw [List.range_succ, List.filter_append]
    by_cases e : i = k
    · subst e
      rw [List.getElem?_append_right (by unfold cntN; omega)]
      have : cntN s i - (List.filter s (List.range i)).length = 0 := by unfold cntN; omega
      rw [this]
      simp [hs]
    · have ih := sub_pos s hs k (by omega)
      have hl := (List.getElem?_eq_some_iff.1 ih).1
      rw [List.getElem?_append_left hl]; exact ih
theorem sub_row (R : List (List Int)) (s : Nat → Bool) {i k : Nat} (hs : s i = true) (h : i < k) : cntN s i < (subT R s k).length ∧ row (subT R s k) (cntN s i) = row R i := by
  have hp := sub_pos s hs k h
  have hl := (List.getElem?_eq_some_iff.1 hp).1
  refine ⟨by rw [sub_len]; exact hl, ?_⟩
  unfold row subT
  rw [List.getD_eq_getElem?_getD, List.getElem?_map, hp]
  rfl
theorem cnt_mono (s : Nat → Bool) {i : Nat} (hs : s i = true) : ∀ k, i < k → cntN s i < cntN s k
  | 0, h => by omega
  | k + 1, h => by
    rw [cnt_succ]
    by_cases e : i = k
    · subst e; rw [hs]; simp
    · have := cnt_mono s hs k (by omega); omega
theorem sub_holds {R : List (List Int)} {s : Nat → Bool} {M : Nat} {m l r : Int} (h : holdsF (subT R s M) m l r = true) {i k : Nat} (hik : i < k) (hk : k < M) (si : s i = true) (sk : s k = true) : violF R m l r i k = false := by
  unfold holdsF at h
  have h := of_decide_eq_true h
  obtain ⟨a1, a2⟩ := sub_row R s si (show i < M by omega)
  obtain ⟨b1, b2⟩ := sub_row R s sk hk
  have := h _ a1 _ b1 (cnt_mono s si k hik)
  unfold violF at this ⊢
  rw [a2, b2] at this
  exact this
theorem nodup_le : ∀ {A B : List Int}, A.Nodup → (∀ x ∈ A, x ∈ B) → A.length ≤ B.length
  | [], B, _, _ => Nat.zero_le _
  | a :: A, B, hA, h => by
    obtain ⟨h1, h2⟩ := List.nodup_cons.1 hA
    have ha := h a (List.mem_cons_self ..)
    have := nodup_le (A := A) (B := B.erase a) h2 fun x hx => by
      have hne : x ≠ a := fun e => h1 (by rw [← e]; exact hx)
      exact (List.mem_erase_of_ne hne).2 (h x (List.mem_cons_of_mem _ hx))
    rw [List.length_erase_of_mem ha] at this
    have hp := List.length_pos_of_mem ha
    rw [List.length_cons]; omega
theorem cls_nodup (q : Nat → Nat → Bool) (i t : Nat) : (clsTo q i t).Nodup := by
  have h : Up (clsTo q i t) := cls_up
  unfold Up at h
  exact h.imp fun h => by omega
theorem ptn_nodup {q : Nat → Nat → Bool} {N : Nat} (hp : Per q N) : ∀ i, i ≤ N → ((ptnQ q N i).flatten).Nodup
  | 0, _ => by simp [ptnQ]
  | i + 1, h => by
    have ih := ptn_nodup hp i (by omega)
    rw [ptn_succ, List.flatten_append]
    cases hh : headQ q N i
    · simpa using ih
    · simp only [if_true, List.flatten_cons, List.flatten_nil, List.append_nil]
      unfold headQ at hh
      rw [Bool.and_eq_true] at hh
      have ht : tkQ q i i = false := by simpa using hh.1
      refine List.nodup_append.2 ⟨ih, cls_nodup _ _ _, fun a ha b hb e => ?_⟩
      subst e
      rcases cls_mem.1 hb with e | ⟨k, e, h1, h2, h3⟩
      · subst e
        have := (ptn_flat hp (Nat.le_refl i) (by omega)).1 ha
        rw [ht] at this; cases this
      · subst e
        have := (ptn_flat hp (Nat.le_of_lt h2) h1).1 ha
        rw [tk_free hp (by omega) ht h3] at this; cases this
theorem cnt_filter (p : Int → Bool) : ∀ (C : List Int), (C.filter p).length = cntN (fun b => p (nth C b)) C.length := by
  have h : ∀ (C : List Int) (t : Nat), t ≤ C.length → ((C.take t).filter p).length = cntN (fun b => p (nth C b)) t := by
    intro C t
    induction t with
    | zero => intro _; simp [cntN]
    | succ t ih =>
      intro ht
      rw [cnt_succ, ← ih (by omega), List.take_add_one, nth_eq (by omega : t < C.length), List.filter_append, List.length_append]
      cases hp : p (nth C t) <;> simp [hp]
  intro C
  have := h C C.length (Nat.le_refl _)
  rwa [List.take_length] at this
theorem cnt_le_one {p q : Nat → Bool} {a : Nat} : ∀ t, (∀ b, b < t → p b = true → b = a ∨ q b = true) → cntN p t ≤ cntN q t + (if a < t then 1 else 0)
  | 0, _ => by simp [cntN]
  | t + 1, h => by
    rw [cnt_succ, cnt_succ]
    have ih := cnt_le_one t fun b hb => h b (by omega)
    cases hp : p t
    · simp only [Bool.false_eq_true, if_false, Nat.add_zero]
      split <;> split at ih <;> (try split) <;> omega
    · rcases h t (by omega) hp with e | e
      · subst e
        simp only [Nat.lt_irrefl, if_false, Nat.add_zero] at ih
        simp only [if_true, Nat.lt_succ_self]
        split <;> omega
      · rw [e]
        simp only [if_true]
        split <;> split at ih <;> omega
theorem most_nn (R : List (List Int)) (m r : Int) (C : List Int) : 0 ≤ mostTo R m r C C.length := (most_bd R m r C C.length).1
theorem sub_law {n m x r : Int} {R : List (List Int)} {s : Nat → Bool} (ht : isTabF n R = true) (ha : askF n R m x r = true) (h : holdsF (subT R s R.length) m x r = true) : (cntN s R.length : Int) + rrF n R m x r ≤ R.length := by
  have ha' := ha
  unfold askF isDepF isAttr at ha'
  simp only [Bool.and_eq_true, decide_eq_true_eq] at ha'
  obtain ⟨_, ⟨⟨h1, ⟨⟨h0, h5⟩, hx0⟩, hx⟩, hr0⟩, hr⟩ := ha'
  have hp := pow_nat (n := n) (by omega) h5
  have sx : St x := ⟨hx0, by have := hp.1; omega⟩
  have hper := same_per (m := m) ht sx
  have sym := fun i k => same_symm (m := m) (l := x) ht (i := i) (k := k)
  have hag := fun i k => cell_agree (m := m) ht (i := i) (k := k) (hr0 := hr0) (hr := hr)
  unfold rrF
  rw [ha]
  simp only [if_true]
  -- two selected rows of one class agree on the right
  have hpair : ∀ i k, i < R.length → k < R.length → i ≠ k → s i = true → s k = true → sameB R m x i k = true → eqCellF m (cellF R i r) (cellF R k r) = true := by
    have one : ∀ i k, i < k → k < R.length → s i = true → s k = true → sameB R m x i k = true → eqCellF m (cellF R i r) (cellF R k r) = true := by
      intro i k hik hk si sk hs
      have := sub_holds h hik hk si sk
      unfold violF at this
      have hs' : ins x (agreeF m (row R i) (row R k)) = true := hs
      rw [hs', Bool.true_and, hag i k (by omega)] at this
      simpa using this
    intro i k hi hk hne si sk hs
    rcases Nat.lt_or_gt_of_ne hne with h' | h'
    · exact one i k h' hk si sk hs
    · exact eqCell_symm (one k i h' hi sk si (by rw [sym k i hk hi]; exact hs))
  have hcls : ∀ j, j < R.length → ((clsTo (sameB R m x) j R.length).filter fun (y : Int) => s y.toNat).length ≤ (mostTo R m r (clsTo (sameB R m x) j R.length) (clsTo (sameB R m x) j R.length).length) := by
    intro j hj
    obtain ⟨C, hC⟩ : ∃ C, C = clsTo (sameB R m x) j R.length := ⟨_, rfl⟩
    rw [← hC]
    by_cases hz : ∃ a, a < C.length ∧ s (nth C a).toNat = true
    · obtain ⟨a, hal, hsa⟩ := hz
      have hge := most_ge R m r C C.length a hal
      rw [cnt_filter]
      have hle := cnt_le_one (p := fun b => s (nth C b).toNat) (q := pairB R m r C a) (a := a) C.length (fun b hb hsb => by
        by_cases e : b = a
        · exact .inl e
        · right
          obtain ⟨i, ei, hi⟩ := cls_memA hC hal
          obtain ⟨k, ek, hk⟩ := cls_memA hC hb
          have hne : nth C a ≠ nth C b := by
            have := up_ne (C := C) (by rw [hC]; exact cls_up) hal hb
            have hd : decide (a ≠ b) = true := decide_eq_true (fun e' => e e'.symm)
            rw [hd] at this
            simpa using this
          have hik : i ≠ k := fun e' => hne (by rw [ei, ek, e'])
          have hiM : i < R.length := by rcases hi with rfl | h <;> omega
          have hkM : k < R.length := by rcases hk with rfl | h <;> omega
          unfold pairB
          rw [Bool.and_eq_true]
          refine ⟨by simpa using hne, ?_⟩
          rw [ei, ek]
          have hsa' : s i = true := by rw [ei] at hsa; simpa using hsa
          have hsb' : s k = true := by have hsb : s (nth C b).toNat = true := hsb; rw [ek] at hsb; simpa using hsb
          refine hpair i k hiM hkM hik hsa' hsb' ?_
          rcases hi with rfl | ⟨i1, _, i3⟩
          · rcases hk with rfl | ⟨_, _, k3⟩
            · exact absurd rfl hik
            · exact k3
          · have i4 : sameB R m x i j = true := by rw [sym i j hiM hj]; exact i3
            rcases hk with rfl | ⟨_, _, k3⟩
            · exact i4
            · exact hper.tr i j k hiM hj i4 k3)
      rw [if_pos hal] at hle
      omega
    · have : (C.filter fun (y : Int) => s y.toNat) = [] := by
        rw [List.filter_eq_nil_iff]
        intro y hy hsy
        obtain ⟨a, ha⟩ := List.mem_iff_getElem?.1 hy
        have hal := (List.getElem?_eq_some_iff.1 ha).1
        refine hz ⟨a, hal, ?_⟩
        rw [nth_eq hal] at ha
        injection ha with ha
        rw [ha]; exact hsy
      rw [this]
      have := most_nn R m r C
      simpa using this
  have hsum : ∀ t, t ≤ (ptnQ (sameB R m x) R.length R.length).length → sumTo R m r (ptnQ (sameB R m x) R.length R.length) t ≤ ((((ptnQ (sameB R m x) R.length R.length).take t).flatten.filter fun (y : Int) => !s y.toNat).length : Int) := by
    intro t
    induction t with
    | zero => intro _; simp [sumTo]
    | succ t ih =>
      intro htl
      have ih := ih (by omega)
      rw [sum_succ, List.take_add_one, row_eq (by omega), List.flatten_append, List.filter_append, List.length_append]
      obtain ⟨j, hj, _, ej⟩ := ptn_class (show t < (ptnQ (sameB R m x) R.length R.length).length by omega)
      have hc := hcls j hj
      rw [← ej] at hc
      simp only [Option.toList_some, List.flatten_cons, List.flatten_nil, List.append_nil]
      have hs : ∀ (G : List Int), G.length = (G.filter fun (y : Int) => s y.toNat).length + (G.filter fun (y : Int) => !s y.toNat).length := by
        intro G
        induction G with
        | nil => rfl
        | cons o t ih => cases h : s o.toNat <;> simp [List.filter_cons, h] <;> omega
      have h3 := hs (row (ptnQ (sameB R m x) R.length R.length) t)
      have e4 : ∀ (a b : Nat), ((a + b : Nat) : Int) = (a : Int) + b := fun a b => by omega
      rw [e4]
      omega
  have h6 := hsum _ (Nat.le_refl _)
  rw [List.take_length] at h6
  have hnd := (ptn_nodup hper R.length (Nat.le_refl _)).filter (fun (y : Int) => !s y.toNat)
  have hle := nodup_le hnd (B := ((List.range R.length).filter fun j => !s j).map fun (j : Nat) => (j : Int)) fun y hy => by
    obtain ⟨y1, y2⟩ := List.mem_filter.1 hy
    obtain ⟨C, hC, hyC⟩ := List.mem_flatten.1 y1
    obtain ⟨j, hj, _, rfl⟩ := ptn_mem.1 hC
    rcases cls_mem.1 hyC with e | ⟨k, e, h1, _, _⟩
    · subst e; exact List.mem_map.2 ⟨j, List.mem_filter.2 ⟨List.mem_range.2 hj, by simpa using y2⟩, rfl⟩
    · subst e; exact List.mem_map.2 ⟨k, List.mem_filter.2 ⟨List.mem_range.2 h1, by simpa using y2⟩, rfl⟩
  rw [List.length_map] at hle
  have h7 := cnt_compl s R.length
  have h8 : ((List.range R.length).filter fun j => !s j).length = cntN (fun j => !s j) R.length := rfl
  omega
/-- fewer than all rows are to be removed -/
theorem rr_lt {n m x r : Int} {R : List (List Int)} (ht : isTabF n R = true) (ha : askF n R m x r = true) : rrF n R m x r ≤ 0 ∨ rrF n R m x r < R.length := by
  by_cases h0 : R.length = 0
  · left
    have hR : R = [] := List.length_eq_zero_iff.1 h0
    unfold rrF
    rw [ha]
    simp only [if_true]
    rw [hR]
    show sumTo _ _ _ (ptnQ _ 0 0) _ ≤ 0
    simp [ptnQ, sumTo]
  · right
    have h1 : holdsF (subT R (fun i => decide (i = 0)) R.length) m x r = true := by
      unfold holdsF
      refine decide_eq_true fun i hi k hk hik => ?_
      exfalso
      rw [sub_len] at hi hk
      have := cnt_one (fun i => decide (i = 0)) 0 R.length (fun j _ hj => of_decide_eq_true hj)
      split at this <;> omega
    have := sub_law ht ha h1
    have := cnt_pos (fun i => decide (i = 0)) R.length 0 (by omega) (by simp)
    omega
end Go.Proofs.Ytcenndlbhgfdfaa
