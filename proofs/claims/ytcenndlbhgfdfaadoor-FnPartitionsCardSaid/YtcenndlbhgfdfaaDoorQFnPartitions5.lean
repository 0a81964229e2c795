/- Contracts and lemmas for FnPartitions, part 5 of 5. -/
import Derived.Test.YtcenndlbhgfdfaaDoorQFnPartitions1
import Derived.Test.YtcenndlbhgfdfaaDoorQFnPartitions2
import Derived.Test.YtcenndlbhgfdfaaDoorQFnPartitions3
import Derived.Test.YtcenndlbhgfdfaaDoorQFnPartitions4
import Derived.Deep.RegionHeld3
import Derived.Deep.CutRange
namespace Go.Proofs.YtcenndlbhgfdfaaDoor
open Go.RowKit
set_option linter.unusedVariables false
set_option maxRecDepth 100000

theorem small_ptn {q : Nat → Nat → Bool} {N : Nat} (hN : N ≤ 40) : SmallP (ptnQ q N N) := by
  refine ⟨Nat.le_trans (ptn_len q N N) (by omega), fun j hj => ?_⟩
  exact Nat.le_trans (ptn_row hj) (by omega)
theorem small_snoc {P : List (List Int)} {C : List Int} (h : SmallP P) (hl : P.length ≤ 40) (hc : C.length ≤ 100) : SmallP (P ++ [C]) := by
  refine ⟨by rw [List.length_append, List.length_singleton]; omega, fun j hj => ?_⟩
  rw [List.length_append, List.length_singleton] at hj
  rcases Nat.lt_or_ge j P.length with h1 | h1
  · rw [row_append_lt h1]; exact h.2 j h1
  · have : j = P.length := by omega
    rw [this, row_append_end]; exact hc
theorem small_room {P : List (List Int)} (h : SmallP P) : P.length ≤ Room ∧ ∀ j, j < P.length → (row P j).length ≤ Room :=
  ⟨Nat.le_trans h.1 (by unfold Room; omega), fun j hj => Nat.le_trans (h.2 j hj) (by unfold Room; omega)⟩
theorem OwnI.pair (w : World) (base : Nat) (hb : base ≤ w.heap.size) (x y : Int) : OwnI (w.alloc (.cells #[.int .i64 x, .int .i64 y] 3)) base (.slice (some ⟨w.heap.size, 0, none⟩) 2 2) [x, y] :=
  World.ownsRow_lit w #[.int .i64 x, .int .i64 y] 2 hb (by decide) rfl
theorem apartRR {w w' : World} {B : Nat} {vP vS : Value} {xP xS : List Value} {P S : List (List Int)} (hP : OwnRows w B vP xP P) (hS : OwnRows w' w.heap.size vS xS S) : ApartR vS xS vP :=
  ⟨(hP.fresh hS.outer).1.symm, fun y hy => by obtain ⟨j, _, o, c, e, h2, _⟩ := hS.one hy; exact (hP.fresh h2).1.symm⟩
def Draws5 (e : Ending) (w' : World) (P S : List (List Int)) (N : Nat) : Prop :=
  ∃ (oP oS : Option Addr) (cP cS : Nat), e = .returned (.tuple #[.slice oP P.length cP, .slice oS S.length cS, .int .i64 N]) ∧ RowsAt w' oP P ∧ RowsAt w' oS S
set_option maxHeartbeats 6400000 in
theorem c_l5Draw (g : Nat) (w : World) (hc : Cur w g) :
    Calls Tryd.prog 45 #[.pointer (some ⟨g, 0, none⟩)] w fun e w' => ∃ (P S : List (List Int)) (N : Nat), Draws5 e w' P S N ∧ SmallP P ∧ SmallP S ∧ N ≤ 40 ∧ w.grownBy w' (some g) := by
  obtain ⟨j0, hj, hy0, hy1, hy2⟩ := info_parts info_ints
  have hlt := hc.lt
  go_enter Tryd.func45, Tryd.ntmps45
  go_wp2_with fail
  refine (c_l3TableS g _ hc).mono ?_
  rintro e w1 ⟨n, o, c, xs, R, rfl, hO, ⟨hn2, hn4, hRl, ht⟩, hc1, hG⟩
  have HT : Hid (isTabF n R = true) := ht
  have hsz := hG.size
  clear hc ht
  have kT := Blk.new w1 #[.int .i64 n, .slice o R.length c] 26
  have hba := (Below.refl w1.heap.size w1).alloc (Nat.le_refl _) (.cells #[.int .i64 n, .slice o R.length c] 26)
  replace hO := hO.keep hba
  replace hc1 := hc1.keep hba
  replace hG := grown_trans hG (grown_of_below hba _)
  clear hba
  go_upto_region 2 with fail
  generalize w1.alloc (.cells #[.int .i64 n, .slice o R.length c] 26) = w2 at *
  obtain ⟨k6, hk6⟩ : ∃ k, w1.heap.size = k := ⟨_, rfl⟩
  rw [hk6] at kT hsz
  simp only [hk6]
  clear hk6
  have hRr : Hid (∀ j, j < R.length → (row R j).length ≤ Room) := fun j hj => by
    have := (isTab_of HT.out).2.2.2 j hj
    unfold Room; omega
  have hRR : R.length ≤ Room := by unfold Room; omega
  refine wp_region_held_drew (S := fun w' => w'.cell? ⟨k6, 0, none⟩ = some (.int .i64 n) ∧ w'.cell? ⟨k6, 1, none⟩ = some (.slice o R.length c)) (by kernel_rfl) ⟨kT.drew.cell 0 (.int .i64 n) rfl, kT.drew.cell 1 (.slice o R.length c) rfl⟩ (fun hS => ?_)
  (refine wpAnyH_val (i := 0) (some 10) ?_ rfl rfl (by kernel_rfl) (by kernel_rfl) (by kernel_rfl) (fun _ _ _ h => h) (by rfl) (by assumption) ?_ ?_; rotate_left; (intro w hSw; go_simp; (try with_reducible rfl)); (try simp only [Act.put, List.setIfInBounds_toArray, List.set_cons_zero, List.set_cons_succ])); (refine wpAnyH_val (i := 1) (some 11) ?_ rfl rfl (by kernel_rfl) (by kernel_rfl) (by kernel_rfl) (fun _ _ _ h => h) (by rfl) (by assumption) ?_ ?_; rotate_left; (intro w hSw; go_simp; (try with_reducible rfl)); (try simp only [Act.put, List.setIfInBounds_toArray, List.set_cons_zero, List.set_cons_succ]))
  (refine wpAnyH_ready (rs := [2]) (by kernel_rfl) (by simp) ?_; refine AllReadyH.cons rfl (fun K hK => ?_) AllReadyH.nil; go_simp)
  refine (c_l1Below g 4 (by omega) _ (hc1.keep (Below.refl _ _).drew)).mono ?_
  rintro e w3 ⟨q2, rfl, hq0, hq1, _, hc3, hg⟩
  have hq3 := hq1 (by omega)
  have hg2 := drew_grown hg
  have kT3 := kT.cur hg2 (show k6 ≠ g by omega)
  have hk63 : k6 < w3.heap.size := kT3.lt
  have hO3 := hO.cur hg2 hlt
  have hG3 := grown_trans hG hg2
  have hw3 : w.heap.size ≤ w3.heap.size := hG3.size
  have hS3 := (show _ ∧ _ from ⟨kT3.cell 0 (.int .i64 n) rfl, kT3.cell 1 (.slice o R.length c) rfl⟩)
  refine hK.out _ _ hS3 (fun hS2 => ?_)
  clear hK hg hg2 hq1 hS hS2
  have hS := hS3
  clear hS3
  (try simp only [Act.put, List.setIfInBounds_toArray, List.set_cons_zero, List.set_cons_succ])
  (refine wpAnyH_ready (rs := [3]) (by kernel_rfl) (by simp) ?_; refine AllReadyH.cons rfl (fun K hK => ?_) AllReadyH.nil; go_simp)
  refine (c_l5Classes n o c R 0 q2 _ (hO3.read hRR hRr.out) HT.out ⟨by omega, by omega⟩).mono ?_
  rintro e w4 ⟨vP, xP, rfl, hOP, hbn⟩
  have hS4 := (show _ ∧ _ from ⟨cell_keep hS.1 hbn, cell_keep hS.2 hbn⟩)
  refine hK.out _ _ hS4 (fun hS2 => ?_)
  clear hK hS hS2
  have hS := hS4
  clear hS4
  (try simp only [Act.put, List.setIfInBounds_toArray, List.set_cons_zero, List.set_cons_succ])
  (refine wpAnyH_val (i := 4) (some 6) ?_ rfl rfl (by kernel_rfl) (by kernel_rfl) (by kernel_rfl) (fun _ _ _ h => h) (by rfl) (by assumption) ?_ ?_; rotate_left; (intro w hSw; go_simp; (try with_reducible rfl)); (try simp only [Act.put, List.setIfInBounds_toArray, List.set_cons_zero, List.set_cons_succ]))
  refine wpAnyH_done (by kernel_rfl) ?_ _
  have HSP : Hid (SmallP (ptnQ (sameB R 0 q2) R.length R.length)) := small_ptn (by omega)
  have hPl : (ptnQ (sameB R 0 q2) R.length R.length).length ≤ 40 := Nat.le_trans (ptn_len _ _ _) (by omega)
  have hxP := hOP.len
  have hs4 : w3.heap.size ≤ w4.heap.size := hbn.size
  clear hq0 hq3 hn2 hn4
  replace hG3 := grown_trans hG3 (grown_of_below hbn _)
  have hg5 : g < w3.heap.size := hc3.lt
  replace hc3 := hc3.keep hbn
  replace hO3 := hO3.keep hbn
  replace kT3 := kT3.keep hbn
  clear hbn hG hc1 kT hO hS
  obtain ⟨oP, cP, rfl⟩ := hOP.shape
  generalize ptnQ (sameB R 0 q2) R.length R.length = P at *
  go_upto_region 3 with fail
  refine wp_region_held_drew (S := fun w' => w'.cell? ⟨k6, 0, none⟩ = some (.int .i64 n) ∧ w'.cell? ⟨k6, 1, none⟩ = some (.slice o R.length c)) (by kernel_rfl) ⟨kT3.drew.cell 0 (.int .i64 n) rfl, kT3.drew.cell 1 (.slice o R.length c) rfl⟩ (fun hS => ?_)
  (refine wpAnyH_val (i := 0) (some 14) ?_ rfl rfl (by kernel_rfl) (by kernel_rfl) (by kernel_rfl) (fun _ _ _ h => h) (by rfl) (by assumption) ?_ ?_; rotate_left; (intro w hSw; go_simp; (try with_reducible rfl)); (try simp only [Act.put, List.setIfInBounds_toArray, List.set_cons_zero, List.set_cons_succ])); (refine wpAnyH_val (i := 1) (some 15) ?_ rfl rfl (by kernel_rfl) (by kernel_rfl) (by kernel_rfl) (fun _ _ _ h => h) (by rfl) (by assumption) ?_ ?_; rotate_left; (intro w hSw; go_simp; (try with_reducible rfl)); (try simp only [Act.put, List.setIfInBounds_toArray, List.set_cons_zero, List.set_cons_succ]))
  (refine wpAnyH_ready (rs := [2]) (by kernel_rfl) (by simp) ?_; refine AllReadyH.cons rfl (fun K hK => ?_) AllReadyH.nil; go_simp)
  refine (c_l1Below g 4 (by omega) _ (hc3.keep (Below.refl _ _).drew)).mono ?_
  rintro e w5 ⟨q5, rfl, hq0, hq1, _, hc5, hg⟩
  have hq3 := hq1 (by omega)
  have hg2 := drew_grown hg
  have kT5 := kT3.cur hg2 (show k6 ≠ g by omega)
  have hO5 := hO3.cur hg2 hlt
  replace hOP := hOP.cur hg2 hg5
  have hG5 := grown_trans hG3 hg2
  have hc5lt := hc5.lt
  have hs5 : w4.heap.size ≤ w5.heap.size := hg2.size
  have hS3 := (show _ ∧ _ from ⟨kT5.cell 0 (.int .i64 n) rfl, kT5.cell 1 (.slice o R.length c) rfl⟩)
  refine hK.out _ _ hS3 (fun hS2 => ?_)
  clear hK hg hg2 hq1 hS hS2
  have hS := hS3
  clear hS3
  (try simp only [Act.put, List.setIfInBounds_toArray, List.set_cons_zero, List.set_cons_succ])
  (refine wpAnyH_ready (rs := [3]) (by kernel_rfl) (by simp) ?_; refine AllReadyH.cons rfl (fun K hK => ?_) AllReadyH.nil; go_simp)
  refine (c_l5Classes n o c R 0 q5 _ (hO5.read hRR hRr.out) HT.out ⟨by omega, by omega⟩).mono ?_
  rintro e w6 ⟨vS, xS, rfl, hOS, hbn⟩
  have apSP := apartRR hOP hOS
  have hs6 : w5.heap.size ≤ w6.heap.size := hbn.size
  have hS4 := (show _ ∧ _ from ⟨cell_keep hS.1 hbn, cell_keep hS.2 hbn⟩)
  refine hK.out _ _ hS4 (fun hS2 => ?_)
  clear hK hS hS2
  have hS := hS4
  clear hS4
  (try simp only [Act.put, List.setIfInBounds_toArray, List.set_cons_zero, List.set_cons_succ])
  (refine wpAnyH_val (i := 4) (some 7) ?_ rfl rfl (by kernel_rfl) (by kernel_rfl) (by kernel_rfl) (fun _ _ _ h => h) (by rfl) (by assumption) ?_ ?_; rotate_left; (intro w hSw; go_simp; (try with_reducible rfl)); (try simp only [Act.put, List.setIfInBounds_toArray, List.set_cons_zero, List.set_cons_succ]))
  refine wpAnyH_done (by kernel_rfl) ?_ _
  have HSS : Hid (SmallP (ptnQ (sameB R 0 q5) R.length R.length)) := small_ptn (by omega)
  clear hq0 hq3
  replace hG5 := grown_trans hG5 (grown_of_below hbn _)
  replace hc5 := hc5.keep hbn
  replace hOP := hOP.keep hbn
  replace kT5 := kT5.keep hbn
  have hb6 := hbn.size
  have hlt6 := hc5.lt
  have hg6 : g < w5.heap.size := hc5lt
  clear hbn hG3 hc3 kT3 hO3 hS hO5
  obtain ⟨oS, cS, rfl⟩ := hOS.shape
  generalize ptnQ (sameB R 0 q5) R.length R.length = S at *
  go_wp2_with fail
  refine (c_l1Once g 14 (by omega) _ hc5).mono ?_
  rintro e w7 ⟨t, rfl, hc7, hg⟩
  have hs7 := hg.size
  replace hOP := hOP.cur hg hg5
  replace hOS := hOS.cur hg hg6
  replace kT5 := kT5.cur hg (show k6 ≠ g by omega)
  replace hG5 := grown_trans hG5 hg
  clear hc5 hg
  cases t
  · have m0 := kT5.cell 0 (.int .i64 n) rfl
    have m1 := kT5.cell 1 (.slice o R.length c) rfl
    go_upto_region 6 with fail
    refine wp_region_held_drew (S := fun w' => w'.cell? ⟨k6, 0, none⟩ = some (.int .i64 n) ∧ w'.cell? ⟨k6, 1, none⟩ = some (.slice o R.length c)) (by kernel_rfl) ⟨cell_keep m0 (Below.refl _ _).drew, cell_keep m1 (Below.refl _ _).drew⟩ (fun hS => ?_)
    (refine wpAnyH_val (i := 0) (some 28) ?_ rfl rfl (by kernel_rfl) (by kernel_rfl) (by kernel_rfl) (fun _ _ _ h => h) (by rfl) (by assumption) ?_ ?_; rotate_left; (intro w hSw; go_simp; (try with_reducible rfl)); (try simp only [Act.put, List.setIfInBounds_toArray, List.set_cons_zero, List.set_cons_succ])); (refine wpAnyH_val (i := 1) (some 29) ?_ rfl rfl (by kernel_rfl) (by kernel_rfl) (by kernel_rfl) (fun _ _ _ h => h) (by rfl) (by assumption) ?_ ?_; rotate_left; (intro w hSw; go_simp; (try with_reducible rfl)); (try simp only [Act.put, List.setIfInBounds_toArray, List.set_cons_zero, List.set_cons_succ])); (refine wpAnyH_val (i := 2) (some 30) ?_ rfl rfl (by kernel_rfl) (by kernel_rfl) (by kernel_rfl) (fun _ _ _ h => h) (by rfl) (by assumption) ?_ ?_; rotate_left; (intro w hSw; go_simp; (try with_reducible rfl)); (try simp only [Act.put, List.setIfInBounds_toArray, List.set_cons_zero, List.set_cons_succ])); (refine wpAnyH_val (i := 3) (some 31) ?_ rfl rfl (by kernel_rfl) (by kernel_rfl) (by kernel_rfl) (fun _ _ _ h => h) (by rfl) (by assumption) ?_ ?_; rotate_left; (intro w hSw; go_simp; (try with_reducible rfl)); (try simp only [Act.put, List.setIfInBounds_toArray, List.set_cons_zero, List.set_cons_succ])); (refine wpAnyH_val (i := 4) (some 32) ?_ rfl rfl (by kernel_rfl) (by kernel_rfl) (by kernel_rfl) (fun _ _ _ h => h) (by rfl) (by assumption) ?_ ?_; rotate_left; (intro w hSw; go_simp; (try with_reducible rfl)); (try simp only [Act.put, List.setIfInBounds_toArray, List.set_cons_zero, List.set_cons_succ])); (refine wpAnyH_val (i := 5) (some 2) ?_ rfl rfl (by kernel_rfl) (by kernel_rfl) (by kernel_rfl) (fun _ _ _ h => h) (by rfl) (by assumption) ?_ ?_; rotate_left; (intro w hSw; go_simp; (try with_reducible rfl)); (try simp only [Act.put, List.setIfInBounds_toArray, List.set_cons_zero, List.set_cons_succ])); (refine wpAnyH_val (i := 6) (some 3) ?_ rfl rfl (by kernel_rfl) (by kernel_rfl) (by kernel_rfl) (fun _ _ _ h => h) (by rfl) (by assumption) ?_ ?_; rotate_left; (intro w hSw; go_simp; (try with_reducible rfl)); (try simp only [Act.put, List.setIfInBounds_toArray, List.set_cons_zero, List.set_cons_succ])); (refine wpAnyH_val (i := 7) (some 4) ?_ rfl rfl (by kernel_rfl) (by kernel_rfl) (by kernel_rfl) (fun _ _ _ h => h) (by rfl) (by assumption) ?_ ?_; rotate_left; (intro w hSw; go_simp; (try with_reducible rfl)); (try simp only [Act.put, List.setIfInBounds_toArray, List.set_cons_zero, List.set_cons_succ]))
    refine wpAnyH_done (by kernel_rfl) ?_ _
    go_wp2
    refine bodyPost_ret (v := .tuple #[.slice oP P.length cP, .slice oS S.length cS, .int .i64 R.length]) (by simp only [results, Tryd.results45]; simp [go_sem]) rfl ?_
    exact ⟨P, S, R.length, ⟨oP, oS, cP, cS, rfl, (hOP.keep (Below.refl _ _).drew).read (small_room HSP.out).1 (small_room HSP.out).2, (hOS.keep (Below.refl _ _).drew).read (small_room HSS.out).1 (small_room HSS.out).2⟩, HSP.out, HSS.out, by omega, grown_trans hG5 (grown_of_below (Below.refl _ _).drew _)⟩
  · go_wp2_with fail
    refine (c_l1Below g 5 (by omega) _ hc7).mono ?_
    rintro e w8 ⟨x, rfl, _, _, _, hc8, hg⟩
    have hs8 := hg.size
    replace hOP := hOP.cur hg hg5
    replace hOS := hOS.cur hg hg6
    replace kT5 := kT5.cur hg (show k6 ≠ g by omega)
    replace hG5 := grown_trans hG5 hg
    clear hc7 hg
    go_wp2_with fail
    refine (c_l1Below g 9 (by omega) _ hc8).mono ?_
    rintro e w9 ⟨y, rfl, _, _, _, hc9, hg⟩
    have hs9 := hg.size
    replace hOP := hOP.cur hg hg5
    replace hOS := hOS.cur hg hg6
    replace kT5 := kT5.cur hg (show k6 ≠ g by omega)
    replace hG5 := grown_trans hG5 hg
    clear hc8 hg
    have hC0 := OwnI.pair w9 w9.heap.size (Nat.le_refl _) x y
    have apC : ApartR (.slice oP P.length cP) xP (.slice (some ⟨w9.heap.size, 0, none⟩) 2 2) := hOP.fresh hC0
    have hw39 : w3.heap.size ≤ w9.heap.size := by omega
    have hC := hC0.based hw39
    have hba := (Below.refl w9.heap.size w9).alloc (Nat.le_refl _) (.cells #[.int .i64 x, .int .i64 y] 3)
    replace hOP := hOP.keep hba
    replace hOS := hOS.keep hba
    replace kT5 := kT5.keep hba
    replace hG5 := grown_trans hG5 (grown_of_below hba _)
    clear hC0 hba hc9
    go_wp2_with (first | (at_builtin; refine wpList_append_fresh rfl _ _ 24 rfl w3.heap.size 50 j0 (.slice none 0 0) 1 24 Tryd.underlying24 hj hy0 hy1 hy2 rfl (by decide) _ _ _ rfl (World.ownsRow.alloc hOP.outer _) _ 1 1 [.slice (some ⟨w9.heap.size, 0, none⟩) 2 2] rfl rfl (by intro j u hj; match j, hj with | 0, hj => simp at hj; subst hj; simp [Addr.add]) (by intro u hu; simp at hu; subst hu; rfl) (by unfold maxLen; omega) (by omega) (by simp; omega) ?_; intro v' w10 hown hgrow hfr) | fail)
    have hOP2 := OwnRows.snoc (C := [x, y]) hOP hC apC hown hgrow hfr
    have hba := (Below.refl (w9.alloc (.cells #[.int .i64 x, .int .i64 y] 3)).heap.size (w9.alloc (.cells #[.int .i64 x, .int .i64 y] 3))).alloc (Nat.le_refl _) (.cells #[.slice (some ⟨w9.heap.size, 0, none⟩) 2 2] 50)
    have hOS2 := (hOS.keep hba).far hgrow apSP
    have kT6 := (kT5.keep hba).gr hgrow (by intro e; have := (World.ownsRow.lt hOP.outer _ e.symm).1; omega)
    have hG6 := grown_more (grown_trans hG5 (grown_of_below hba _)) hgrow (fun k e => Nat.le_trans hw3 (World.ownsRow.lt hOP.outer k e).1)
    clear hown hgrow hfr hOP hOS hba kT5 hG5
    have HSP2 : Hid (SmallP (P ++ [[x, y]])) := small_snoc HSP.out hPl (by simp)
    obtain ⟨oP2, cP2, rfl⟩ := hOP2.shape
    have hlp : (P ++ [[x, y]]).length = P.length + 1 := by simp
    rw [hlp] at hOP2
    have HLP : Hid ((P ++ [[x, y]]).length = P.length + 1) := hlp
    clear hlp
    have m0 := kT6.cell 0 (.int .i64 n) rfl
    have m1 := kT6.cell 1 (.slice o R.length c) rfl
    simp only [HLP.out]
    go_upto_region 6 with fail
    refine wp_region_held_drew (S := fun w' => w'.cell? ⟨k6, 0, none⟩ = some (.int .i64 n) ∧ w'.cell? ⟨k6, 1, none⟩ = some (.slice o R.length c)) (by kernel_rfl) ⟨cell_keep m0 (Below.refl _ _).drew, cell_keep m1 (Below.refl _ _).drew⟩ (fun hS => ?_)
    (refine wpAnyH_val (i := 0) (some 28) ?_ rfl rfl (by kernel_rfl) (by kernel_rfl) (by kernel_rfl) (fun _ _ _ h => h) (by rfl) (by assumption) ?_ ?_; rotate_left; (intro w hSw; go_simp; (try with_reducible rfl)); (try simp only [Act.put, List.setIfInBounds_toArray, List.set_cons_zero, List.set_cons_succ])); (refine wpAnyH_val (i := 1) (some 29) ?_ rfl rfl (by kernel_rfl) (by kernel_rfl) (by kernel_rfl) (fun _ _ _ h => h) (by rfl) (by assumption) ?_ ?_; rotate_left; (intro w hSw; go_simp; (try with_reducible rfl)); (try simp only [Act.put, List.setIfInBounds_toArray, List.set_cons_zero, List.set_cons_succ])); (refine wpAnyH_val (i := 2) (some 30) ?_ rfl rfl (by kernel_rfl) (by kernel_rfl) (by kernel_rfl) (fun _ _ _ h => h) (by rfl) (by assumption) ?_ ?_; rotate_left; (intro w hSw; go_simp; (try with_reducible rfl)); (try simp only [Act.put, List.setIfInBounds_toArray, List.set_cons_zero, List.set_cons_succ])); (refine wpAnyH_val (i := 3) (some 31) ?_ rfl rfl (by kernel_rfl) (by kernel_rfl) (by kernel_rfl) (fun _ _ _ h => h) (by rfl) (by assumption) ?_ ?_; rotate_left; (intro w hSw; go_simp; (try with_reducible rfl)); (try simp only [Act.put, List.setIfInBounds_toArray, List.set_cons_zero, List.set_cons_succ])); (refine wpAnyH_val (i := 4) (some 32) ?_ rfl rfl (by kernel_rfl) (by kernel_rfl) (by kernel_rfl) (fun _ _ _ h => h) (by rfl) (by assumption) ?_ ?_; rotate_left; (intro w hSw; go_simp; (try with_reducible rfl)); (try simp only [Act.put, List.setIfInBounds_toArray, List.set_cons_zero, List.set_cons_succ])); (refine wpAnyH_val (i := 5) (some 2) ?_ rfl rfl (by kernel_rfl) (by kernel_rfl) (by kernel_rfl) (fun _ _ _ h => h) (by rfl) (by assumption) ?_ ?_; rotate_left; (intro w hSw; go_simp; (try with_reducible rfl)); (try simp only [Act.put, List.setIfInBounds_toArray, List.set_cons_zero, List.set_cons_succ])); (refine wpAnyH_val (i := 6) (some 3) ?_ rfl rfl (by kernel_rfl) (by kernel_rfl) (by kernel_rfl) (fun _ _ _ h => h) (by rfl) (by assumption) ?_ ?_; rotate_left; (intro w hSw; go_simp; (try with_reducible rfl)); (try simp only [Act.put, List.setIfInBounds_toArray, List.set_cons_zero, List.set_cons_succ])); (refine wpAnyH_val (i := 7) (some 4) ?_ rfl rfl (by kernel_rfl) (by kernel_rfl) (by kernel_rfl) (fun _ _ _ h => h) (by rfl) (by assumption) ?_ ?_; rotate_left; (intro w hSw; go_simp; (try with_reducible rfl)); (try simp only [Act.put, List.setIfInBounds_toArray, List.set_cons_zero, List.set_cons_succ]))
    refine wpAnyH_done (by kernel_rfl) ?_ _
    go_wp2
    refine bodyPost_ret (v := .tuple #[.slice oP2 (P.length + 1) cP2, .slice oS S.length cS, .int .i64 R.length]) (by simp only [results, Tryd.results45]; simp [go_sem]) rfl ?_
    refine ⟨P ++ [[x, y]], S, R.length, ⟨oP2, oS, cP2, cS, by rw [HLP.out], ?_, (hOS2.keep (Below.refl _ _).drew).read (small_room HSS.out).1 (small_room HSS.out).2⟩, HSP2.out, HSS.out, by omega, grown_trans hG6 (grown_of_below (Below.refl _ _).drew _)⟩
    rw [← HLP.out] at hOP2
    exact (hOP2.keep (Below.refl _ _).drew).read (small_room HSP2.out).1 (small_room HSP2.out).2
end Go.Proofs.YtcenndlbhgfdfaaDoor
namespace Go.Proofs.YtcenndlbhgfdfaaDoor
open Go.RowKit
set_option linter.unusedVariables false
set_option maxRecDepth 100000

theorem same_symmP {n : Int} {R : List (List Int)} {m s : Int} {i k : Nat} (ht : isTabF n R = true) (hs : St s) (hi : i < R.length) (hk : k < R.length) (h : sameB R m s i k = true) : sameB R m s k i = true := by
  have q := (same_iff ht hs hi).1 h
  exact (same_iff ht hs hk).2 fun c hc h1 => ⟨(q c hc h1).1, eqCell_symm (q c hc h1).2⟩
theorem same_eqv {n : Int} {R : List (List Int)} {m s : Int} (ht : isTabF n R = true) (hs : St s) : Eqv (sameB R m s) R.length :=
  ⟨same_per ht hs, fun _ _ hi hk h => same_symmP ht hs hi hk h⟩
theorem ins_uni {l o x : Int} (hl : St l) (ho : St o) (hx : St x) : ins (uni l o) x = (ins l x && ins o x) := by
  rw [Bool.eq_iff_iff, Bool.and_eq_true, ins_iff (uni_st hl ho) hx, ins_iff hl hx, ins_iff ho hx]
  constructor
  · intro h
    exact ⟨fun c hc h1 => h c hc (by rw [hasc_uni hl ho hc, h1]; rfl), fun c hc h1 => h c hc (by rw [hasc_uni hl ho hc, h1]; simp)⟩
  · rintro ⟨h1, h2⟩ c hc h
    rw [hasc_uni hl ho hc, Bool.or_eq_true] at h
    rcases h with h | h
    · exact h1 c hc h
    · exact h2 c hc h
theorem ins_one {c x : Int} (hc : Co c) (hx : St x) : ins (one c) x = hasc x c := by
  rw [Bool.eq_iff_iff, ins_iff (one_st hc) hx]
  constructor
  · intro h; exact h c hc (by rw [hasc_one hc hc]; simp)
  · intro h d hd h1
    rw [hasc_one hc hd, beq_iff_eq] at h1
    rw [← h1]; exact h
theorem attr_one {n r : Int} (h5 : n ≤ 5) (h0 : 0 ≤ r) (hr : r < n) : isAttr n (one r) = true := by
  obtain ⟨a, rfl⟩ := Int.eq_ofNat_of_zero_le (show 0 ≤ n by omega)
  obtain ⟨b, rfl⟩ := Int.eq_ofNat_of_zero_le h0
  have h : ∀ a < 6, ∀ b < 5, b < a → isAttr ((a : Nat) : Int) (one ((b : Nat) : Int)) = true := by decide +kernel
  exact h a (by omega) b (by omega) (by omega)
theorem attr_uni {n l r : Int} (h5 : n ≤ 5) (hl : isAttr n l = true) (h0 : 0 ≤ r) (hr : r < n) : isAttr n (uni l (one r)) = true := by
  obtain ⟨a, rfl⟩ := Int.eq_ofNat_of_zero_le (show 0 ≤ n by omega)
  obtain ⟨b, rfl⟩ := Int.eq_ofNat_of_zero_le h0
  have hl0 : 0 ≤ l ∧ l < 2 ^ ((a : Nat) : Int).toNat := by
    unfold isAttr at hl
    simp only [Bool.and_eq_true, decide_eq_true_eq] at hl
    exact ⟨hl.1.2, hl.2⟩
  have hp := (pow_wrap (n := (a : Int)) (by omega) h5).2.1
  obtain ⟨x, rfl⟩ := Int.eq_ofNat_of_zero_le hl0.1
  have h : ∀ a < 6, ∀ x < 32, ∀ b < 5, b < a → isAttr ((a : Nat) : Int) ((x : Nat) : Int) = true → isAttr ((a : Nat) : Int) (uni ((x : Nat) : Int) (one ((b : Nat) : Int))) = true := by decide +kernel
  exact h a (by omega) x (by omega) b (by omega) (by omega) hl
theorem fine_ptn {q : Nat → Nat → Bool} {N : Nat} (hN : N ≤ 40) : FineP (ptnQ q N N) := by
  refine ⟨small_ptn hN, fun j hj x hx => ?_⟩
  obtain ⟨k, hk, _, e⟩ := ptn_mem.1 (row_mem hj)
  rw [e] at hx
  have h1 := cls_ge hx
  have h2 := cls_lt hk hx
  omega
theorem fine_ptnF {n : Int} {R : List (List Int)} {m s : Int} (hR : R.length ≤ 40) : FineP (ptnF n R m s) := by
  cases h : ptnOk n R m s
  · rw [ptnF_not h]
    exact ⟨⟨by simp, fun j hj => absurd hj (by simp)⟩, fun j hj => absurd hj (by simp)⟩
  · rw [ptnF_is h]; exact fine_ptn hR
theorem holds_iff {R : List (List Int)} {m l r : Int} {n : Int} (ht : isTabF n R = true) (hl : St l) (hr : Co r) : holdsF R m l r = true ↔ subQ (sameB R m l) (sameB R m (one r)) R.length := by
  have hlen : ∀ i, i < R.length → (row R i).length ≤ 5 := fun i hi => by have := (isTab_of ht).2.2.2 i hi; have := (isTab_of ht).2.1; omega
  unfold holdsF subQ
  rw [decide_eq_true_iff]
  constructor
  · intro h i k hik hk h1
    have h2 := h i (by omega) k hk hik
    unfold violF at h2
    unfold sameB at h1 ⊢
    rw [h1, Bool.true_and, Bool.not_eq_false'] at h2
    rw [ins_one hr (agreeF_st (hlen i (by omega)))]
    exact h2
  · intro h i hi k hk hik
    have h2 := h i k hik hk
    unfold violF
    unfold sameB at h2
    rw [ins_one hr (agreeF_st (hlen i hi))] at h2
    cases e : ins l (agreeF m (row R i) (row R k))
    · rfl
    · rw [h2 e]; rfl
structure PartLaw (n : Int) (R : List (List Int)) (m l r : Int) : Prop where
  ask : askF n R m l r = true
  prod : prodF (ptnF n R m l) (ptnF n R m (one r)) R.length = ptnF n R m (uni l (one r))
  err : holdsF R m l r = (errF (ptnF n R m l) == errF (ptnF n R m (uni l (one r))))
  fin : holdsF R m l r = finF (ptnF n R m l) (ptnF n R m (one r))
  fin2 : finF (ptnF n R m (uni l (one r))) (ptnF n R m l) = true
  ptn : isPtnF (ptnF n R m l) R.length = true
theorem part_law {n : Int} {R : List (List Int)} {m l r : Int} (ht : isTabF n R = true) (hd : isDepF n l r = true) (h0 : 0 ≤ m) (h1 : m ≤ 1) : PartLaw n R m l r := by
  have hI := isTab_of ht
  have hD := dep_of hd hI.2.1
  have hm : modeF m = true := by
    unfold modeF
    rw [Bool.or_eq_true, beq_iff_eq, beq_iff_eq]; omega
  have hd' := hd
  unfold isDepF at hd'
  simp only [Bool.and_eq_true, decide_eq_true_eq] at hd'
  obtain ⟨⟨⟨_, ha⟩, hr0⟩, hrn⟩ := hd'
  have ho := one_st hD.2
  have hu := uni_st hD.1 ho
  have p1 : ptnF n R m l = ptnQ (sameB R m l) R.length R.length := ptnF_is (by unfold ptnOk; rw [ht, hm, ha]; rfl)
  have p2 : ptnF n R m (one r) = ptnQ (sameB R m (one r)) R.length R.length := ptnF_is (by unfold ptnOk; rw [ht, hm, attr_one hI.2.1 hr0 hrn]; rfl)
  have p3 : ptnF n R m (uni l (one r)) = ptnQ (sameB R m (uni l (one r))) R.length R.length := ptnF_is (by unfold ptnOk; rw [ht, hm, attr_uni hI.2.1 ha hr0 hrn]; rfl)
  have hlen : ∀ i, i < R.length → (row R i).length ≤ 5 := fun i hi => by have := hI.2.2.2 i hi; omega
  have hb : ∀ i k, i < k → k < R.length → sameB R m (uni l (one r)) i k = (sameB R m l i k && sameB R m (one r) i k) := fun i k hik hk => ins_uni hD.1 ho (agreeF_st (hlen i (by omega)))
  have e1 := same_eqv (m := m) ht hD.1
  have e2 := same_eqv (m := m) ht ho
  have e3 := same_eqv (m := m) ht hu
  have hh := holds_iff (m := m) ht hD.1 hD.2
  refine ⟨by unfold askF; rw [ht, hm, hd]; rfl, ?_, ?_, ?_, ?_, ?_⟩
  · rw [p1, p2, p3]; exact prod_ptn e1 e2 hb
  · rw [p1, p3, Bool.eq_iff_iff, hh, beq_iff_eq]; exact err_iff e1 e2 e3.per hb
  · rw [p1, p2, Bool.eq_iff_iff, hh]; exact (fin_iff e1 e2).symm
  · rw [p3, p1]
    refine fin_of e1 fun i k hik hk h => ?_
    rw [hb i k hik hk, Bool.and_eq_true] at h
    exact h.1
  · rw [p1]; exact isPtn_ptn e1.per
theorem one_pow {r : Int} (h : Co r) : one r = 2 ^ r.toNat := (pow_wrap h.1 (by have := h.2; omega)).1
end Go.Proofs.YtcenndlbhgfdfaaDoor
namespace Go.Proofs.YtcenndlbhgfdfaaDoor
open Go.RowKit
set_option linter.unusedVariables false
set_option maxRecDepth 100000

theorem jn_nil (sep : List UInt8) : jn sep [] = [] := rfl
theorem bs_bar : (ByteArray.mk #[32, 124, 32]) = bs barL := rfl
theorem bs_sp : (ByteArray.mk #[32]) = bs spL := rfl
set_option maxHeartbeats 6400000 in
theorem c_specFormatPartition (oa) (ca : Nat) (P : List (List Int)) (w : World) (hP : RowsAt w oa P) (hf : FineP P) :
    Ans Tryd.prog 10 #[.slice oa P.length ca] w (.string (bs (fmtP P))) := by
  unfold Ans
  have HF : Hid (FineP P) := hf
  have hn : P.length ≤ 100 := hf.1.1
  clear hf
  go_enter Tryd.func10, Tryd.ntmps10
  go_wp2
  go_loopw [3, 4] (fun vs i wr => ∃ k : Nat, i = .int .i64 k ∧ k ≤ P.length ∧ vs = .string (bs (linesF (P.take k))) ∧ Below w.heap.size w wr) (fun _ i _ => P.length - (intOf i).toNat)
  case atStart => exact ⟨0, rfl, Nat.zero_le _, rfl, Below.refl _ _⟩
  case round =>
    obtain ⟨k, rfl, hk, rfl, hb⟩ := hrel
    have hll := lines_len HF.out hk
    by_cases hlt : k < P.length
    · obtain ⟨b, off, rfl, hbs, hc⟩ := hP.at_ (by omega)
      obtain ⟨o1, c1, h1w, r1w⟩ := hc k hlt
      have HB0 : Hid (linesF (P.take (k + 1)) = linesF (P.take k) ++ (if 0 < k then barL else []) ++ jn spL ((row P k).map num)) := by
        show linesF (P.take (k + 1)) = _
        unfold linesF
        rw [map_take lineF hlt, jn_snoc, List.length_map, List.length_take, Nat.min_eq_left hk]; rfl
      have HFL : Hid (∀ x ∈ row P k, 0 ≤ x ∧ x < 100) := HF.out.2 k hlt
      have hln : (row P k).length ≤ 100 := HF.out.1.2 k hlt
      have h1 := cell_keep h1w hb
      clear hc
      generalize row P k = L at *
      have hz0 : (bs (linesF (P.take k))).size ≤ 30300 := by rw [bs_size]; exact hll
      by_cases h0 : 0 < k
      · have hd : decide (0 < k) = true := decide_eq_true h0
        have hd2 : (0 : Int) < (k : Int) := by omega
        obtain ⟨B, hBe⟩ : ∃ B, linesF (P.take k) ++ barL = B := ⟨_, rfl⟩
        have HBE : Hid (bs (linesF (P.take k)) ++ ByteArray.mk #[32, 124, 32] = bs B) := by
          show bs (linesF (P.take k)) ++ ByteArray.mk #[32, 124, 32] = bs B
          rw [bs_bar, bs_app, hBe]
        have HB : Hid (B ++ jn spL (L.map num) = linesF (P.take (k + 1))) := by
          show B ++ jn spL (L.map num) = _
          rw [HB0.out, if_pos h0, hBe]
        have hBl : B.length ≤ 30303 := by rw [← hBe, List.length_append, show barL.length = 3 from rfl]; omega
        clear hBe h0 HB0
        go_wp2
        go_loopw [3, 5] (fun vs j wr => ∃ t : Nat, j = .int .i64 t ∧ t ≤ L.length ∧ vs = .string (bs (B ++ jn spL ((L.take t).map num))) ∧ Below w.heap.size w wr) (fun _ j _ => L.length - (intOf j).toNat)
        case atStart => exact ⟨0, rfl, Nat.zero_le _, by rw [List.take_zero, List.map_nil, jn_nil, List.append_nil, ← HBE.out], hb⟩
        case round =>
          clear hb h1
          obtain ⟨t, rfl, ht, rfl, hb⟩ := hrel
          have h1 := cell_keep h1w hb
          by_cases htl : t < L.length
          · obtain ⟨b', off', ho, hbs', hc'⟩ := r1w.at_ (by omega)
            cases ho
            have q1 := cell_keep (hc' t htl) hb
            have hx := HFL.out (nth L t) (List.mem_iff_getElem?.2 ⟨t, nth_eq htl⟩)
            have HTt : Hid ((L.take (t + 1)).map num = (L.take t).map num ++ [num (nth L t)]) := map_takeI num htl
            have HJ : Hid (jn spL ((L.take (t + 1)).map num) = jn spL ((L.take t).map num) ++ (if 0 < t then spL else []) ++ num (nth L t)) := by
              show jn spL ((L.take (t + 1)).map num) = _
              rw [HTt.out, jn_snoc, List.length_map, List.length_take, Nat.min_eq_left ht]
            have hjl : (jn spL ((L.take t).map num)).length ≤ 300 := line_len (L := L.take t) (by rw [List.length_take]; omega) (take_all HFL.out)
            obtain ⟨x, hx2⟩ : ∃ x : Nat, nth L t = x := ⟨(nth L t).toNat, by omega⟩
            have hx100 : x < 100 := by omega
            rw [hx2] at q1 HJ
            have hz2 : (bs (num x)).size ≤ 2 := by rw [bs_size]; exact num_lenI (by omega)
            have hz1 : (bs (B ++ jn spL ((L.take t).map num))).size ≤ 40000 := by rw [bs_size, List.length_append]; omega
            have HG : Hid (B ++ jn spL ((L.take (t + 1)).map num) = (B ++ jn spL ((L.take t).map num)) ++ (if 0 < t then spL else []) ++ num x) := by
              show B ++ jn spL ((L.take (t + 1)).map num) = _
              rw [HJ.out]; simp [List.append_assoc]
            generalize B ++ jn spL ((L.take t).map num) = T at *
            clear hc' hx hx2 HJ HTt hjl
            by_cases h0 : 0 < t
            · have hd : (0 : Int) < (t : Int) := by omega
              have H0 : Hid (0 < t) := h0
              clear h0
              go_wp2_with (first | (go_at_call 38; refine Calls.mono (c_specFormatInt x hx100 _) ?_; rintro e w1 ⟨rfl, hbn⟩; replace h1 := cell_keep h1 hbn; replace q1 := cell_keep q1 hbn; replace hb := bel_to (w := w) (by first | exact hb | exact hb.alloc hb.size _ | exact (hb.alloc hb.size _).alloc (Nat.le_trans hb.size (by simp)) _ | exact hb.setCell (by simp [hb.size]) _) hbn; clear hbn) | fail)
              go_roundw
              case rel => exact ⟨t + 1, by go_num, by omega, by rw [HG.out, if_pos H0.out, ← bs_app, ← bs_app]; rfl, hb⟩
              case measure => simp [intOf]; omega
            · have hd : ¬ (0 : Int) < (t : Int) := by omega
              have H0 : Hid (¬ 0 < t) := h0
              clear h0
              go_wp2_with (first | (go_at_call 38; refine Calls.mono (c_specFormatInt x hx100 _) ?_; rintro e w1 ⟨rfl, hbn⟩; replace h1 := cell_keep h1 hbn; replace q1 := cell_keep q1 hbn; replace hb := bel_to (w := w) (by first | exact hb | exact hb.alloc hb.size _ | exact (hb.alloc hb.size _).alloc (Nat.le_trans hb.size (by simp)) _ | exact hb.setCell (by simp [hb.size]) _) hbn; clear hbn) | fail)
              go_roundw
              case rel => exact ⟨t + 1, by go_num, by omega, by rw [HG.out, if_neg H0.out, List.append_nil, ← bs_app], hb⟩
              case measure => simp [intOf]; omega
          · have htt : t = L.length := by omega
            have HTT : Hid (B ++ jn spL ((L.take t).map num) = linesF (P.take (k + 1))) := by
              show B ++ jn spL ((L.take t).map num) = linesF (P.take (k + 1))
              rw [htt, List.take_length]; exact HB.out
            clear htt
            go_wp2
            go_roundw
            case rel => exact ⟨k + 1, by go_num, by omega, by rw [HTT.out], hb⟩
            case measure => simp [intOf]; omega
      · have hd : decide (0 < k) = false := decide_eq_false h0
        have hd2 : ¬ (0 : Int) < (k : Int) := by omega
        have HB0' : Hid (linesF (P.take k) ++ jn spL (L.map num) = linesF (P.take (k + 1))) := by
          show linesF (P.take k) ++ jn spL (L.map num) = _
          rw [HB0.out, if_neg h0, List.append_nil]
        obtain ⟨B, hBe⟩ : ∃ B, linesF (P.take k) = B := ⟨_, rfl⟩
        rw [hBe] at HB0' hll hz0
        simp only [hBe]
        have HB : Hid (B ++ jn spL (L.map num) = linesF (P.take (k + 1))) := HB0'
        have hBl : B.length ≤ 30303 := by omega
        clear hBe h0 HB0 HB0'
        go_wp2
        go_loopw [3, 5] (fun vs j wr => ∃ t : Nat, j = .int .i64 t ∧ t ≤ L.length ∧ vs = .string (bs (B ++ jn spL ((L.take t).map num))) ∧ Below w.heap.size w wr) (fun _ j _ => L.length - (intOf j).toNat)
        case atStart => exact ⟨0, rfl, Nat.zero_le _, by rw [List.take_zero, List.map_nil, jn_nil, List.append_nil], hb⟩
        case round =>
          clear hb h1
          obtain ⟨t, rfl, ht, rfl, hb⟩ := hrel
          have h1 := cell_keep h1w hb
          by_cases htl : t < L.length
          · obtain ⟨b', off', ho, hbs', hc'⟩ := r1w.at_ (by omega)
            cases ho
            have q1 := cell_keep (hc' t htl) hb
            have hx := HFL.out (nth L t) (List.mem_iff_getElem?.2 ⟨t, nth_eq htl⟩)
            have HTt : Hid ((L.take (t + 1)).map num = (L.take t).map num ++ [num (nth L t)]) := map_takeI num htl
            have HJ : Hid (jn spL ((L.take (t + 1)).map num) = jn spL ((L.take t).map num) ++ (if 0 < t then spL else []) ++ num (nth L t)) := by
              show jn spL ((L.take (t + 1)).map num) = _
              rw [HTt.out, jn_snoc, List.length_map, List.length_take, Nat.min_eq_left ht]
            have hjl : (jn spL ((L.take t).map num)).length ≤ 300 := line_len (L := L.take t) (by rw [List.length_take]; omega) (take_all HFL.out)
            obtain ⟨x, hx2⟩ : ∃ x : Nat, nth L t = x := ⟨(nth L t).toNat, by omega⟩
            have hx100 : x < 100 := by omega
            rw [hx2] at q1 HJ
            have hz2 : (bs (num x)).size ≤ 2 := by rw [bs_size]; exact num_lenI (by omega)
            have hz1 : (bs (B ++ jn spL ((L.take t).map num))).size ≤ 40000 := by rw [bs_size, List.length_append]; omega
            have HG : Hid (B ++ jn spL ((L.take (t + 1)).map num) = (B ++ jn spL ((L.take t).map num)) ++ (if 0 < t then spL else []) ++ num x) := by
              show B ++ jn spL ((L.take (t + 1)).map num) = _
              rw [HJ.out]; simp [List.append_assoc]
            generalize B ++ jn spL ((L.take t).map num) = T at *
            clear hc' hx hx2 HJ HTt hjl
            by_cases h0 : 0 < t
            · have hd : (0 : Int) < (t : Int) := by omega
              have H0 : Hid (0 < t) := h0
              clear h0
              go_wp2_with (first | (go_at_call 38; refine Calls.mono (c_specFormatInt x hx100 _) ?_; rintro e w1 ⟨rfl, hbn⟩; replace h1 := cell_keep h1 hbn; replace q1 := cell_keep q1 hbn; replace hb := bel_to (w := w) (by first | exact hb | exact hb.alloc hb.size _ | exact (hb.alloc hb.size _).alloc (Nat.le_trans hb.size (by simp)) _ | exact hb.setCell (by simp [hb.size]) _) hbn; clear hbn) | fail)
              go_roundw
              case rel => exact ⟨t + 1, by go_num, by omega, by rw [HG.out, if_pos H0.out, ← bs_app, ← bs_app]; rfl, hb⟩
              case measure => simp [intOf]; omega
            · have hd : ¬ (0 : Int) < (t : Int) := by omega
              have H0 : Hid (¬ 0 < t) := h0
              clear h0
              go_wp2_with (first | (go_at_call 38; refine Calls.mono (c_specFormatInt x hx100 _) ?_; rintro e w1 ⟨rfl, hbn⟩; replace h1 := cell_keep h1 hbn; replace q1 := cell_keep q1 hbn; replace hb := bel_to (w := w) (by first | exact hb | exact hb.alloc hb.size _ | exact (hb.alloc hb.size _).alloc (Nat.le_trans hb.size (by simp)) _ | exact hb.setCell (by simp [hb.size]) _) hbn; clear hbn) | fail)
              go_roundw
              case rel => exact ⟨t + 1, by go_num, by omega, by rw [HG.out, if_neg H0.out, List.append_nil, ← bs_app], hb⟩
              case measure => simp [intOf]; omega
          · have htt : t = L.length := by omega
            have HTT : Hid (B ++ jn spL ((L.take t).map num) = linesF (P.take (k + 1))) := by
              show B ++ jn spL ((L.take t).map num) = linesF (P.take (k + 1))
              rw [htt, List.take_length]; exact HB.out
            clear htt
            go_wp2
            go_roundw
            case rel => exact ⟨k + 1, by go_num, by omega, by rw [HTT.out], hb⟩
            case measure => simp [intOf]; omega
    · have hkk : k = P.length := by omega
      have HTT : Hid (linesF (P.take k) = linesF P) := by show linesF (P.take k) = linesF P; rw [hkk, List.take_length]
      have HFM : Hid (fmtP P = if linesF P = [] then noneL else linesF P) := rfl
      clear hkk hll
      simp only [HTT.out]
      generalize linesF P = S at *
      by_cases hS : S = []
      · have HS : Hid (S = []) := hS
        have hn2 : (bs S).toList.isEmpty = true := by rw [bs_list, emp_eq, hS]; rfl
        clear hS
        go_wp2
        go_ret
        exact ⟨by rw [HFM.out, if_pos HS.out]; rfl, hb⟩
      · have HS : Hid (S ≠ []) := hS
        have hn2 : (bs S).toList.isEmpty = false := by rw [bs_list, emp_eq]; simpa using hS
        clear hS
        go_wp2
        go_ret
        exact ⟨by rw [HFM.out, if_neg HS.out]; rfl, hb⟩
end Go.Proofs.YtcenndlbhgfdfaaDoor
namespace Go.Proofs.YtcenndlbhgfdfaaDoor
open Go.RowKit
set_option linter.unusedVariables false
set_option maxRecDepth 100000

set_option maxHeartbeats 1600000 in
theorem c_DrawProductOf (oa) (mc cap : Nat) (hm : mc ≤ 1048576) (w : World) (hB : BytesAt w oa mc) :
    Calls Tryd.prog 18 #[.slice oa mc cap] w fun e w' => ∃ (P S : List (List Int)) (N : Nat) (oP oS : Option Addr) (cP cS : Nat), e = .returned (.tuple #[.slice oP P.length cP, .slice oS S.length cS, .int .i64 N]) ∧ RowsAt w' oP P ∧ RowsAt w' oS S ∧ SmallP P ∧ SmallP S ∧ N ≤ 40 ∧ Below w.heap.size w w' := by
  go_enter Tryd.func18, Tryd.ntmps18
  go_wp2_with fail
  refine (c_l1New oa mc cap hm _ hB).mono ?_
  rintro e w1 ⟨rfl, hc1, hbn⟩
  go_wp2_with fail
  refine (c_l5Draw _ _ hc1).mono ?_
  rintro e w2 ⟨P, S, N, ⟨oP, oS, cP, cS, rfl, hP, hS⟩, hsP, hsS, hN, hg⟩
  have hb := below_cur hbn hg (Nat.le_refl _)
  clear hc1 hbn hg
  go_wp2
  refine bodyPost_ret (v := .tuple #[.slice oP P.length cP, .slice oS S.length cS, .int .i64 N]) (by simp only [results, Tryd.results18]; simp [go_sem]) rfl ?_
  exact ⟨P, S, N, oP, oS, cP, cS, rfl, hP, hS, hsP, hsS, hN, hb⟩
set_option maxHeartbeats 1600000 in
theorem c_DrawIsPartition (oa) (mc cap : Nat) (hm : mc ≤ 1048576) (w : World) (hB : BytesAt w oa mc) :
    Calls Tryd.prog 19 #[.slice oa mc cap] w fun e w' => ∃ (P S : List (List Int)) (N : Nat) (oP oS : Option Addr) (cP cS : Nat), e = .returned (.tuple #[.slice oP P.length cP, .int .i64 N]) ∧ RowsAt w' oP P ∧ RowsAt w' oS S ∧ SmallP P ∧ SmallP S ∧ N ≤ 40 ∧ Below w.heap.size w w' := by
  go_enter Tryd.func19, Tryd.ntmps19
  go_wp2_with fail
  refine (c_l1New oa mc cap hm _ hB).mono ?_
  rintro e w1 ⟨rfl, hc1, hbn⟩
  go_wp2_with fail
  refine (c_l5Draw _ _ hc1).mono ?_
  rintro e w2 ⟨P, S, N, ⟨oP, oS, cP, cS, rfl, hP, hS⟩, hsP, hsS, hN, hg⟩
  have hb := below_cur hbn hg (Nat.le_refl _)
  clear hc1 hbn hg
  go_wp2
  refine bodyPost_ret (v := .tuple #[.slice oP P.length cP, .int .i64 N]) (by simp only [results, Tryd.results19]; simp [go_sem]) rfl ?_
  exact ⟨P, S, N, oP, oS, cP, cS, rfl, hP, hS, hsP, hsS, hN, hb⟩
set_option maxHeartbeats 1600000 in
theorem c_DrawIsFiner (oa) (mc cap : Nat) (hm : mc ≤ 1048576) (w : World) (hB : BytesAt w oa mc) :
    Calls Tryd.prog 20 #[.slice oa mc cap] w fun e w' => ∃ (P S : List (List Int)) (N : Nat) (oP oS : Option Addr) (cP cS : Nat), e = .returned (.tuple #[.slice oP P.length cP, .slice oS S.length cS]) ∧ RowsAt w' oP P ∧ RowsAt w' oS S ∧ SmallP P ∧ SmallP S ∧ N ≤ 40 ∧ Below w.heap.size w w' := by
  go_enter Tryd.func20, Tryd.ntmps20
  go_wp2_with fail
  refine (c_l1New oa mc cap hm _ hB).mono ?_
  rintro e w1 ⟨rfl, hc1, hbn⟩
  go_wp2_with fail
  refine (c_l5Draw _ _ hc1).mono ?_
  rintro e w2 ⟨P, S, N, ⟨oP, oS, cP, cS, rfl, hP, hS⟩, hsP, hsS, hN, hg⟩
  have hb := below_cur hbn hg (Nat.le_refl _)
  clear hc1 hbn hg
  go_wp2
  refine bodyPost_ret (v := .tuple #[.slice oP P.length cP, .slice oS S.length cS]) (by simp only [results, Tryd.results20]; simp [go_sem]) rfl ?_
  exact ⟨P, S, N, oP, oS, cP, cS, rfl, hP, hS, hsP, hsS, hN, hb⟩
end Go.Proofs.YtcenndlbhgfdfaaDoor
namespace Go.Proofs.YtcenndlbhgfdfaaDoor
open Go.RowKit
set_option linter.unusedVariables false
set_option maxRecDepth 100000

def DrawsTabP (f : FuncId) (oa : Option Addr) (mc cap : Nat) (w : World) : Prop :=
  Calls Tryd.prog f #[.slice oa mc cap] w fun e w' => ∃ (n m : Int) (o : Option Addr) (c : Nat) (xs : List Value) (R : List (List Int)) (l r : Int), e = .returned (.tuple #[.agg #[.int .i64 n, .slice o R.length c], .int .i64 m, .agg #[.int .i64 l, .int .i64 r]]) ∧ OwnRows w' w.heap.size (.slice o R.length c) xs R ∧ (R.length ≤ 13 ∧ ∀ j, j < R.length → (row R j).length ≤ 5) ∧ Below w.heap.size w w'
set_option maxHeartbeats 12800000 in
theorem c_l6Draw (oa) (mc cap : Nat) (hm : mc ≤ 1048576) (w : World) (hB : BytesAt w oa mc) : DrawsTabP 25 oa mc cap w := by
  unfold DrawsTabP
  have hb := bel2 w (.cells #[.int .i64 0, .slice none 0 0] 26) (.cells #[.int .i64 0, .int .i64 0] 28)
  have kZ := (Blk.new w #[.int .i64 0, .slice none 0 0] 26).alloc (.cells #[.int .i64 0, .int .i64 0] 28)
  have kD := Blk.new (w.alloc (.cells #[.int .i64 0, .slice none 0 0] 26)) #[.int .i64 0, .int .i64 0] 28
  simp only [World.size_alloc] at kD
  go_enter Tryd.func25, Tryd.ntmps25
  go_wp2_with fail
  refine (c_l1New oa mc cap hm _ (hB.keep hb)).mono ?_
  rintro e w1 ⟨rfl, hc1, hbn⟩
  replace kZ := kZ.keep hbn
  replace kD := kD.keep hbn
  replace hb := bel_to hb hbn
  simp only [World.size_alloc] at hc1 ⊢
  clear hbn
  have hz := kD.lt
  go_wp2_with fail
  refine (c_l4Draw _ _ hc1).mono ?_
  rintro e w2 ⟨n, m, o, c, xs, R, rfl, hO, ⟨hRl, hlen⟩, hc2, hg⟩
  have HLn : Hid (∀ j, j < R.length → (row R j).length ≤ 5) := hlen
  have HLR : Hid (∀ j, j < R.length → (row R j).length ≤ Room) := fun j hj => Nat.le_trans (hlen j hj) (by unfold Room; omega)
  have hRR : R.length ≤ Room := by unfold Room; omega
  clear hlen
  have hlt1 := hc1.lt
  have hsz := hg.size
  replace hb := below_cur hb hg (by omega)
  replace kZ := kZ.cur hg (show w.heap.size ≠ w.heap.size + 1 + 1 by omega)
  replace kD := kD.cur hg (show w.heap.size + 1 ≠ w.heap.size + 1 + 1 by omega)
  clear hc1 hg
  have kT := Blk.new w2 #[.int .i64 n, .slice o R.length c] 26
  have hba := (Below.refl w2.heap.size w2).alloc (Nat.le_refl _) (.cells #[.int .i64 n, .slice o R.length c] 26)
  replace kZ := kZ.keep hba
  replace kD := kD.keep hba
  replace hO := hO.keep hba
  replace hc2 := hc2.keep hba
  replace hb := bel_to hb hba
  clear hba
  go_upto_region 3 with fail
  generalize w2.alloc (.cells #[.int .i64 n, .slice o R.length c] 26) = w3 at *
  obtain ⟨k6, hk6⟩ : ∃ k, w2.heap.size = k := ⟨_, rfl⟩
  rw [hk6] at kT hsz
  simp only [hk6]
  clear hk6
  have n0 := kT.cell 0 (.int .i64 n) rfl
  have n1 := kT.cell 1 (.slice o R.length c) rfl
  have n0d := kT.drew.cell 0 (.int .i64 n) rfl
  have n1d := kT.drew.cell 1 (.slice o R.length c) rfl
  go_wp2_with fail
  go_region_law (first
    | ((try go_simp); refine (c_l6Any _ n _ (by first | exact hc2 | exact hc2.keep (Below.refl _ _).drew)).mono ?_; rintro e w9 ⟨l, r, rfl, hc9, hg⟩; have hg3 : w3.grownBy w9 (some (w.heap.size + 1 + 1)) := (by first | exact hg | exact drew_grown hg); have kT9 := kT.cur hg3 (show k6 ≠ w.heap.size + 1 + 1 by omega); have kZ9 := kZ.cur hg3 (show w.heap.size ≠ w.heap.size + 1 + 1 by omega); have kD9 := kD.cur hg3 (show w.heap.size + 1 ≠ w.heap.size + 1 + 1 by omega); have hO9 := hO.cur hg3 (show w.heap.size + 1 + 1 < w1.heap.size by omega); have hb9 := below_cur hb hg3 (by omega); have p0 := kT9.cell 0 (.int .i64 n) rfl; have p1 := kT9.cell 1 (.slice o R.length c) rfl; have z0 := kZ9.cell 0 (.int .i64 0) rfl; have z1 := kZ9.cell 1 (.slice none 0 0) rfl; have f0 := kZ9.free 0; have f1 := kZ9.free 1; have kD8 := (kD9.far ⟨w.heap.size, 0, none⟩ (.int .i64 n) (by simp)).far ⟨w.heap.size, 1, none⟩ (.slice o R.length c) (by simp); have y0 := kD8.cell 0 (.int .i64 0) rfl; have y1 := kD8.cell 1 (.int .i64 0) rfl; have g0 := kD8.free 0; have g1 := kD8.free 1; clear hg hg3)
    | fail)
  all_goals
    have k2 : Blk _ w.heap.size #[.int .i64 n, .slice o R.length c] 26 := (((kZ9.set 0 (.int .i64 n)).set 1 (.slice o R.length c)).far ⟨w.heap.size + 1, 0, none⟩ (.int .i64 l) (by simp)).far ⟨w.heap.size + 1, 1, none⟩ (.int .i64 r) (by simp)
    have k3 : Blk _ (w.heap.size + 1) #[.int .i64 l, .int .i64 r] 28 := (((kD9.far ⟨w.heap.size, 0, none⟩ (.int .i64 n) (by simp)).far ⟨w.heap.size, 1, none⟩ (.slice o R.length c) (by simp)).set 0 (.int .i64 l)).set 1 (.int .i64 r)
    have q0 := k2.cell 0 (.int .i64 n) rfl
    have q1 := k2.cell 1 (.slice o R.length c) rfl
    have q2 := k3.cell 0 (.int .i64 l) rfl
    have q3 := k3.cell 1 (.int .i64 r) rfl
    go_wp2
    refine bodyPost_ret (v := .tuple #[.agg #[.int .i64 n, .slice o R.length c], .int .i64 m, .agg #[.int .i64 l, .int .i64 r]]) (by simp only [results, Tryd.results25]; simp [go_sem, q0, q1, q2, q3]) rfl ?_
    exact ⟨n, m, o, c, xs, R, l, r, rfl, ((((hO9.far_set 0 (.int .i64 n) (show w.heap.size < w1.heap.size by omega)).far_set 1 (.slice o R.length c) (show w.heap.size < w1.heap.size by omega)).far_set 0 (.int .i64 l) (show w.heap.size + 1 < w1.heap.size by omega)).far_set 1 (.int .i64 r) (show w.heap.size + 1 < w1.heap.size by omega)).based (by omega), ⟨hRl, HLn.out⟩, bel_set2 (bel_set2 hb9 (Nat.le_refl _) _ _) (Nat.le_succ _) _ _⟩
end Go.Proofs.YtcenndlbhgfdfaaDoor
namespace Go.Proofs.YtcenndlbhgfdfaaDoor
open Go.RowKit
set_option linter.unusedVariables false
set_option maxRecDepth 100000

set_option maxHeartbeats 3200000 in
theorem c_DrawHoldsDep (oa) (mc cap : Nat) (hm : mc ≤ 1048576) (w : World) (hB : BytesAt w oa mc) : DrawsTabP 5 oa mc cap w := by
  unfold DrawsTabP
  have hb := bel2 w (.cells #[.int .i64 0, .slice none 0 0] 26) (.cells #[.int .i64 0, .int .i64 0] 28)
  have kZ := (Blk.new w #[.int .i64 0, .slice none 0 0] 26).alloc (.cells #[.int .i64 0, .int .i64 0] 28)
  have kD := Blk.new (w.alloc (.cells #[.int .i64 0, .slice none 0 0] 26)) #[.int .i64 0, .int .i64 0] 28
  simp only [World.size_alloc] at kD
  go_enter Tryd.func5, Tryd.ntmps5
  go_wp2_with fail
  have H := c_l6Draw oa mc cap hm _ (hB.keep hb)
  unfold DrawsTabP at H
  refine H.mono ?_
  clear H
  rintro e w2 ⟨n, m, o, c, xs, R, l, r, rfl, hO, ⟨hRl, hlen⟩, hbn⟩
  have HLn : Hid (∀ j, j < R.length → (row R j).length ≤ 5) := hlen
  clear hlen
  replace kZ := kZ.keep hbn
  replace kD := kD.keep hbn
  replace hb := bel_to hb hbn
  simp only [World.size_alloc] at hO
  clear hbn
  have hz := kD.lt
  have kT := (Blk.new w2 #[.int .i64 n, .slice o R.length c] 26).alloc (.cells #[.int .i64 l, .int .i64 r] 28)
  have kE := Blk.new (w2.alloc (.cells #[.int .i64 n, .slice o R.length c] 26)) #[.int .i64 l, .int .i64 r] 28
  simp only [World.size_alloc] at kE
  have hba := bel2 w2 (.cells #[.int .i64 n, .slice o R.length c] 26) (.cells #[.int .i64 l, .int .i64 r] 28)
  replace kZ := kZ.keep hba
  replace kD := kD.keep hba
  replace hO := hO.keep hba
  replace hb := bel_to hb hba
  clear hba
  have n0 := kT.cell 0 (.int .i64 n) rfl
  have n1 := kT.cell 1 (.slice o R.length c) rfl
  have e0 := kE.cell 0 (.int .i64 l) rfl
  have e1 := kE.cell 1 (.int .i64 r) rfl
  have z0 := kZ.cell 0 (.int .i64 0) rfl
  have z1 := kZ.cell 1 (.slice none 0 0) rfl
  have f0 := kZ.free 0
  have f1 := kZ.free 1
  have y0 := kD.cell 0 (.int .i64 0) rfl
  have y1 := kD.cell 1 (.int .i64 0) rfl
  have g0 := kD.free 0
  have g1 := kD.free 1
  have k2 : Blk _ w.heap.size #[.int .i64 n, .slice o R.length c] 26 := (((kZ.set 0 (.int .i64 n)).set 1 (.slice o R.length c)).far ⟨w.heap.size + 1, 0, none⟩ (.int .i64 l) (by simp)).far ⟨w.heap.size + 1, 1, none⟩ (.int .i64 r) (by simp)
  have k3 : Blk _ (w.heap.size + 1) #[.int .i64 l, .int .i64 r] 28 := (((kD.far ⟨w.heap.size, 0, none⟩ (.int .i64 n) (by simp)).far ⟨w.heap.size, 1, none⟩ (.slice o R.length c) (by simp)).set 0 (.int .i64 l)).set 1 (.int .i64 r)
  have kD8 := (kD.far ⟨w.heap.size, 0, none⟩ (.int .i64 n) (by simp)).far ⟨w.heap.size, 1, none⟩ (.slice o R.length c) (by simp)
  have y0f := kD8.cell 0 (.int .i64 0) rfl
  have y1f := kD8.cell 1 (.int .i64 0) rfl
  have g0f := kD8.free 0
  have g1f := kD8.free 1
  have q0 := k2.cell 0 (.int .i64 n) rfl
  have q1 := k2.cell 1 (.slice o R.length c) rfl
  have q2 := k3.cell 0 (.int .i64 l) rfl
  have q3 := k3.cell 1 (.int .i64 r) rfl
  go_wp2_with fail
  all_goals (try go_region_law (fail))
  all_goals go_wp2
  all_goals refine bodyPost_ret (v := .tuple #[.agg #[.int .i64 n, .slice o R.length c], .int .i64 m, .agg #[.int .i64 l, .int .i64 r]]) (by simp only [results, Tryd.results5]; simp [go_sem, q0, q1, q2, q3]) rfl ?_
  all_goals exact ⟨n, m, o, c, xs, R, l, r, rfl, OwnRows.keep (((((hO.far_set 0 (.int .i64 n) (show w.heap.size < w.heap.size + 1 + 1 by omega)).far_set 1 (.slice o R.length c) (show w.heap.size < w.heap.size + 1 + 1 by omega)).far_set 0 (.int .i64 l) (show w.heap.size + 1 < w.heap.size + 1 + 1 by omega)).far_set 1 (.int .i64 r) (show w.heap.size + 1 < w.heap.size + 1 + 1 by omega)).based (by omega)) (Below.refl _ _).drew, ⟨hRl, HLn.out⟩, (bel_set2 (bel_set2 hb (Nat.le_refl _) _ _) (Nat.le_succ _) _ _).drew⟩
end Go.Proofs.YtcenndlbhgfdfaaDoor
namespace Go.Proofs.YtcenndlbhgfdfaaDoor
open Go.RowKit
set_option linter.unusedVariables false
set_option maxRecDepth 100000

theorem small_prod {P S : List (List Int)} {N : Nat} (hN : N ≤ 40) : SmallP (prodF P S N) := by
  unfold prodF
  split
  · exact small_ptn hN
  · exact ⟨by simp, fun j hj => absurd hj (by simp)⟩
set_option maxHeartbeats 100000000 in
theorem w_FnPartitions (w : World) {v0 : Value} (w0 : InBytes w v0) :
    Calls Tryd.prog 3 #[v0] w fun e w' => e = .returned (.bool true) ∧ Below w.heap.size w w' := by
  obtain ⟨oc, mc, capc, rfl, hmm, hB⟩ := w0
  have hb := Below.refl w.heap.size w
  by_cases hbig : (1048576 : Int) < mc
  · go_enter Tryd.func3, Tryd.ntmps3
    go_wp2_with fail
    refine Calls.mono (Ans.eqb (b' := true) (c_big _ _ _ _) (by simpa using hbig)) ?_
    rintro e w1 ⟨rfl, hbn⟩
    replace hb := bel_to hb hbn
    go_wp2
    go_ret
    exact ⟨rfl, hb⟩
  have hmc : mc ≤ 1048576 := by omega
  go_enter Tryd.func3, Tryd.ntmps3
  go_wp2_with fail
  refine Calls.mono (Ans.eqb (b' := false) (c_big _ _ _ _) (by simp only [decide_eq_false_iff_not]; omega)) ?_
  rintro e w1 ⟨rfl, hbn⟩
  replace hB := hB.keep hbn
  replace hb := bel_to hb hbn
  clear hbn hbig
  go_wp2_with fail
  have H := c_DrawHoldsDep oc mc capc hmc _ hB
  unfold DrawsTabP at H
  refine H.mono ?_
  clear H
  rintro e w2 ⟨n, m, o, c, xs, R, l, r, rfl, hO, ⟨hRl, hOlen⟩, hbn⟩
  have hR := hO.read (show R.length ≤ Room by unfold Room; omega) (fun j hj => Nat.le_trans (hOlen j hj) (show 5 ≤ Room by unfold Room; omega))
  clear hO hOlen
  replace hB := hB.keep hbn
  replace hb := bel_to hb hbn
  clear hbn
  replace hR := hR.keep (Below.refl _ _)
  have k12 := (Blk.new w2 #[.int .i64 n, .slice o R.length c] 26).alloc (.cells #[.int .i64 l, .int .i64 r] 28)
  have k13 := Blk.new (w2.alloc (.cells #[.int .i64 n, .slice o R.length c] 26)) #[.int .i64 l, .int .i64 r] 28
  simp only [World.size_alloc] at k13
  have hbn := bel2 w2 (.cells #[.int .i64 n, .slice o R.length c] 26) (.cells #[.int .i64 l, .int .i64 r] 28)
  replace hB := hB.keep hbn
  replace hR := hR.keep hbn
  replace hb := bel_to hb hbn
  clear hbn
  have n0 := k12.cell 0 (.int .i64 n) rfl
  have n1 := k12.cell 1 (.slice o R.length c) rfl
  have d0 := k13.cell 0 (.int .i64 l) rfl
  have d1 := k13.cell 1 (.int .i64 r) rfl
  go_wp2_with fail
  refine (c_PartitionOf n o c R m l _ hR).mono ?_
  rintro e w3 ⟨vP, xP, rfl, hOP, hbn⟩
  replace hB := hB.keep hbn
  replace hR := hR.keep hbn
  replace k12 := k12.keep hbn
  replace k13 := k13.keep hbn
  replace hb := bel_to hb hbn
  clear hbn
  have HFP : Hid (FineP (ptnF n R m l)) := fine_ptnF (by omega)
  obtain ⟨oP, cP, rfl⟩ := hOP.shape
  have hP := hOP.read (small_room HFP.out.1).1 (small_room HFP.out.1).2
  clear hOP
  obtain ⟨P, hPe⟩ : ∃ P, ptnF n R m l = P := ⟨_, rfl⟩
  have HPE : Hid (ptnF n R m l = P) := hPe
  rw [hPe] at hP HFP
  simp only [hPe]
  clear hPe
  clear n0 n1 d0 d1
  have n0 := k12.cell 0 (.int .i64 n) rfl
  have n1 := k12.cell 1 (.slice o R.length c) rfl
  have d0 := k13.cell 0 (.int .i64 l) rfl
  have d1 := k13.cell 1 (.int .i64 r) rfl
  go_wp2_with fail
  refine (c_specPartitionOf n o c R m l _ hR).mono ?_
  rintro e w4 ⟨vP2, xP2, rfl, hOP2, hbn⟩
  replace hB := hB.keep hbn
  replace hR := hR.keep hbn
  replace k12 := k12.keep hbn
  replace k13 := k13.keep hbn
  replace hP := hP.keep hbn
  replace hb := bel_to hb hbn
  clear hbn
  rw [HPE.out] at hOP2
  obtain ⟨oP2, cP2, rfl⟩ := hOP2.shape
  have hP2 := hOP2.read (small_room HFP.out.1).1 (small_room HFP.out.1).2
  clear hOP2
  clear n0 n1 d0 d1
  have n0 := k12.cell 0 (.int .i64 n) rfl
  have n1 := k12.cell 1 (.slice o R.length c) rfl
  have d0 := k13.cell 0 (.int .i64 l) rfl
  have d1 := k13.cell 1 (.int .i64 r) rfl
  go_wp2_with fail
  refine Calls.mono (c_samePartition _ _ _ _ P _ hP hP2) ?_
  rintro e w5 ⟨rfl, hbn⟩
  replace hB := hB.keep hbn
  replace hR := hR.keep hbn
  replace k12 := k12.keep hbn
  replace k13 := k13.keep hbn
  replace hP := hP.keep hbn
  replace hb := bel_to hb hbn
  clear hbn
  clear hP2
  go_wp2_with fail
  refine Calls.mono (c_FormatPartition _ _ P _ hP HFP.out) ?_
  rintro e w6 ⟨rfl, hbn⟩
  replace hB := hB.keep hbn
  replace hR := hR.keep hbn
  replace k12 := k12.keep hbn
  replace k13 := k13.keep hbn
  replace hP := hP.keep hbn
  replace hb := bel_to hb hbn
  clear hbn
  go_wp2_with fail
  refine Calls.mono (c_specFormatPartition _ _ P _ hP HFP.out) ?_
  rintro e w7 ⟨rfl, hbn⟩
  replace hB := hB.keep hbn
  replace hR := hR.keep hbn
  replace k12 := k12.keep hbn
  replace k13 := k13.keep hbn
  replace hP := hP.keep hbn
  replace hb := bel_to hb hbn
  clear hbn
  clear n0 n1 d0 d1
  have n0 := k12.cell 0 (.int .i64 n) rfl
  have n1 := k12.cell 1 (.slice o R.length c) rfl
  have d0 := k13.cell 0 (.int .i64 l) rfl
  have d1 := k13.cell 1 (.int .i64 r) rfl
  obtain ⟨ok, HOK⟩ : ∃ ok, Hid ((isTabF n R && (isDepF n l r && (decide (0 ≤ m) && decide (m ≤ 1)))) = ok) := ⟨_, rfl⟩
  go_upto_region 7 with fail
  go_cut [61] from 46 to 61 (fun x wx => x = .bool ok ∧ Below w7.heap.size w7 wx)
  case first =>
    have hbw := Below.refl w7.heap.size w7
    cases h1 : isTabF n R
    · skip
      have HV : Hid (ok = false) := by show ok = false; rw [← HOK.out, h1]; rfl
      go_wp2_with (first | (go_at_call 11; refine Calls.mono (Ans.eqb (c_specIsTable n o c R _ (hR.keep hbw)) h1) ?_; rintro e wz ⟨rfl, hbn⟩; replace n0 := cell_keep n0 hbn; replace n1 := cell_keep n1 hbn; replace d0 := cell_keep d0 hbn; replace d1 := cell_keep d1 hbn; replace hbw := bel_to hbw hbn; clear hbn) | (go_at_call 12; refine Calls.mono (Ans.eqb (c_specIsDep n l r _) h2) ?_; rintro e wz ⟨rfl, hbn⟩; replace n0 := cell_keep n0 hbn; replace n1 := cell_keep n1 hbn; replace d0 := cell_keep d0 hbn; replace d1 := cell_keep d1 hbn; replace hbw := bel_to hbw hbn; clear hbn) | fail)
      go_meet
      exact ⟨by rw [HV.out]; all_goals (first | rfl | simp [*]), hbw⟩
    · cases h2 : isDepF n l r
      · skip
        have HV : Hid (ok = false) := by show ok = false; rw [← HOK.out, h1, h2]; rfl
        go_wp2_with (first | (go_at_call 11; refine Calls.mono (Ans.eqb (c_specIsTable n o c R _ (hR.keep hbw)) h1) ?_; rintro e wz ⟨rfl, hbn⟩; replace n0 := cell_keep n0 hbn; replace n1 := cell_keep n1 hbn; replace d0 := cell_keep d0 hbn; replace d1 := cell_keep d1 hbn; replace hbw := bel_to hbw hbn; clear hbn) | (go_at_call 12; refine Calls.mono (Ans.eqb (c_specIsDep n l r _) h2) ?_; rintro e wz ⟨rfl, hbn⟩; replace n0 := cell_keep n0 hbn; replace n1 := cell_keep n1 hbn; replace d0 := cell_keep d0 hbn; replace d1 := cell_keep d1 hbn; replace hbw := bel_to hbw hbn; clear hbn) | fail)
        go_meet
        exact ⟨by rw [HV.out]; all_goals (first | rfl | simp [*]), hbw⟩
      · by_cases m0 : 0 ≤ m
        · by_cases m1 : m ≤ 1
          · skip
            have HV : Hid (ok = true) := by show ok = true; rw [← HOK.out, h1, h2, decide_eq_true m0, decide_eq_true m1]; rfl
            go_wp2_with (first | (go_at_call 11; refine Calls.mono (Ans.eqb (c_specIsTable n o c R _ (hR.keep hbw)) h1) ?_; rintro e wz ⟨rfl, hbn⟩; replace n0 := cell_keep n0 hbn; replace n1 := cell_keep n1 hbn; replace d0 := cell_keep d0 hbn; replace d1 := cell_keep d1 hbn; replace hbw := bel_to hbw hbn; clear hbn) | (go_at_call 12; refine Calls.mono (Ans.eqb (c_specIsDep n l r _) h2) ?_; rintro e wz ⟨rfl, hbn⟩; replace n0 := cell_keep n0 hbn; replace n1 := cell_keep n1 hbn; replace d0 := cell_keep d0 hbn; replace d1 := cell_keep d1 hbn; replace hbw := bel_to hbw hbn; clear hbn) | fail)
            go_meet
            exact ⟨by rw [HV.out]; all_goals (first | rfl | simp [*]), hbw⟩
          · skip
            have HV : Hid (ok = false) := by show ok = false; rw [← HOK.out, h1, h2, decide_eq_true m0, decide_eq_false m1]; rfl
            go_wp2_with (first | (go_at_call 11; refine Calls.mono (Ans.eqb (c_specIsTable n o c R _ (hR.keep hbw)) h1) ?_; rintro e wz ⟨rfl, hbn⟩; replace n0 := cell_keep n0 hbn; replace n1 := cell_keep n1 hbn; replace d0 := cell_keep d0 hbn; replace d1 := cell_keep d1 hbn; replace hbw := bel_to hbw hbn; clear hbn) | (go_at_call 12; refine Calls.mono (Ans.eqb (c_specIsDep n l r _) h2) ?_; rintro e wz ⟨rfl, hbn⟩; replace n0 := cell_keep n0 hbn; replace n1 := cell_keep n1 hbn; replace d0 := cell_keep d0 hbn; replace d1 := cell_keep d1 hbn; replace hbw := bel_to hbw hbn; clear hbn) | fail)
            go_meet
            exact ⟨by rw [HV.out]; all_goals (first | rfl | simp [*]), hbw⟩
        · skip
          have HV : Hid (ok = false) := by show ok = false; rw [← HOK.out, h1, h2, decide_eq_false m0]; rfl
          go_wp2_with (first | (go_at_call 11; refine Calls.mono (Ans.eqb (c_specIsTable n o c R _ (hR.keep hbw)) h1) ?_; rintro e wz ⟨rfl, hbn⟩; replace n0 := cell_keep n0 hbn; replace n1 := cell_keep n1 hbn; replace d0 := cell_keep d0 hbn; replace d1 := cell_keep d1 hbn; replace hbw := bel_to hbw hbn; clear hbn) | (go_at_call 12; refine Calls.mono (Ans.eqb (c_specIsDep n l r _) h2) ?_; rintro e wz ⟨rfl, hbn⟩; replace n0 := cell_keep n0 hbn; replace n1 := cell_keep n1 hbn; replace d0 := cell_keep d0 hbn; replace d1 := cell_keep d1 hbn; replace hbw := bel_to hbw hbn; clear hbn) | fail)
          go_meet
          exact ⟨by rw [HV.out]; all_goals (first | rfl | simp [*]), hbw⟩
  case rest =>
    obtain ⟨rfl, hbn⟩ := hcut
    replace hB := hB.keep hbn
    replace hR := hR.keep hbn
    replace k12 := k12.keep hbn
    replace k13 := k13.keep hbn
    replace hP := hP.keep hbn
    replace hb := bel_to hb hbn
    clear hbn
    clear n0 n1 d0 d1
    have n0 := k12.cell 0 (.int .i64 n) rfl
    have n1 := k12.cell 1 (.slice o R.length c) rfl
    have d0 := k13.cell 0 (.int .i64 l) rfl
    have d1 := k13.cell 1 (.int .i64 r) rfl
    go_upto_if 61 with fail
    generalize wc = w8 at *
    go_cut [] from 62 to 121 (fun wx => Below w8.heap.size w8 wx)
    case first =>
      cases ok
      · go_wp2
        go_meet
        exact Below.refl _ _
      · skip
        have hok := HOK.out
        simp only [Bool.and_eq_true, decide_eq_true_eq] at hok
        have HL : Hid (PartLaw n R m l r) := part_law hok.1 hok.2.1 hok.2.2.1 hok.2.2.2
        have hI5 := (isTab_of hok.1).2.1
        have hcr : Co r := (dep_of hok.2.1 hI5).2
        have hr04 : 0 ≤ r ∧ r ≤ 4 := ⟨hcr.1, by have := hcr.2; omega⟩
        have HW : Hid (IntKind.i64.wrap (2 ^ r.toNat) = one r) := Go.IntWalk.i64_left (2 ^ r.toNat)
        clear hok hcr hI5
        have hR8 := hR
        have hbb := Below.refl w8.heap.size w8
        go_upto_region 8 with fail
        refine wp_region_held_drew (S := fun w' => w'.cell? ⟨w2.heap.size, 0, none⟩ = some (.int .i64 n) ∧ w'.cell? ⟨w2.heap.size, 1, none⟩ = some (.slice o R.length c) ∧ w'.cell? ⟨(w2.heap.size + 1), 0, none⟩ = some (.int .i64 l) ∧ w'.cell? ⟨(w2.heap.size + 1), 1, none⟩ = some (.int .i64 r) ∧ Below w8.heap.size w8 w') (by kernel_rfl) ⟨cell_keep n0 (Below.refl _ _).drew, cell_keep n1 (Below.refl _ _).drew, cell_keep d0 (Below.refl _ _).drew, cell_keep d1 (Below.refl _ _).drew, (Below.refl _ _).drew⟩ (fun hS => ?_)
        (refine wpAnyH_val (i := 0) (some 62) ?_ rfl rfl (by kernel_rfl) (by kernel_rfl) (by kernel_rfl) (fun _ _ _ h => h) (by rfl) (by assumption) ?_ ?_; rotate_left; (intro w hSw; go_simp; (try with_reducible rfl)); (try simp only [Act.put, List.setIfInBounds_toArray, List.set_cons_zero, List.set_cons_succ])); (refine wpAnyH_val (i := 1) (some 63) ?_ rfl rfl (by kernel_rfl) (by kernel_rfl) (by kernel_rfl) (fun _ _ _ h => h) (by rfl) (by assumption) ?_ ?_; rotate_left; (intro w hSw; go_simp; (try with_reducible rfl)); (try simp only [Act.put, List.setIfInBounds_toArray, List.set_cons_zero, List.set_cons_succ])); (refine wpAnyH_val (i := 2) (some 64) ?_ rfl rfl (by kernel_rfl) (by kernel_rfl) (by kernel_rfl) (fun _ _ _ h => h) (by rfl) (by assumption) ?_ ?_; rotate_left; (intro w hSw; go_simp; (try with_reducible rfl)); (try simp only [Act.put, List.setIfInBounds_toArray, List.set_cons_zero, List.set_cons_succ])); (refine wpAnyH_val (i := 3) (some 65) ?_ rfl rfl (by kernel_rfl) (by kernel_rfl) (by kernel_rfl) (fun _ _ _ h => h) (by rfl) (by assumption) ?_ ?_; rotate_left; (intro w hSw; go_simp; (try with_reducible rfl)); (try simp only [Act.put, List.setIfInBounds_toArray, List.set_cons_zero, List.set_cons_succ])); (refine wpAnyH_val (i := 4) (some 66) ?_ rfl rfl (by kernel_rfl) (by kernel_rfl) (by kernel_rfl) (fun _ _ _ h => h) (by rfl) (by assumption) ?_ ?_; rotate_left; (intro w hSw; go_simp; (try with_reducible rfl)); (try simp only [Act.put, List.setIfInBounds_toArray, List.set_cons_zero, List.set_cons_succ]))
        (refine wpAnyH_ready (rs := [5]) (by kernel_rfl) (by simp) ?_; refine AllReadyH.cons rfl (fun K hK => ?_) AllReadyH.nil; go_simp)
        refine (c_PartitionOf n o c R m (IntKind.i64.wrap (2 ^ r.toNat)) _ (hR8.keep hS.2.2.2.2)).mono ?_
        rintro e w9 ⟨vS, xS, rfl, hOS, hbn⟩
        have hS3 := (show _ ∧ _ ∧ _ ∧ _ ∧ Below w8.heap.size w8 _ from ⟨cell_keep hS.1 hbn, cell_keep hS.2.1 hbn, cell_keep hS.2.2.1 hbn, cell_keep hS.2.2.2.1 hbn, bel_to hS.2.2.2.2 hbn⟩)
        refine hK.out _ _ hS3 (fun hS2 => ?_)
        clear hK hbn hS hS2
        have hS := hS3
        clear hS3
        (try simp only [Act.put, List.setIfInBounds_toArray, List.set_cons_zero, List.set_cons_succ])
        (refine wpAnyH_val (i := 6) (some 7) ?_ rfl rfl (by kernel_rfl) (by kernel_rfl) (by kernel_rfl) (fun _ _ _ h => h) (by rfl) (by assumption) ?_ ?_; rotate_left; (intro w hSw; go_simp; (try with_reducible rfl)); (try simp only [Act.put, List.setIfInBounds_toArray, List.set_cons_zero, List.set_cons_succ]))
        refine wpAnyH_done (by kernel_rfl) ?_ _
        have hbn := hS.2.2.2.2
        clear hS n0 n1 d0 d1
        have hX := Below.refl w8.heap.size w8
        clear hX hR8 hb
        replace hB := hB.keep hbn
        replace hR := hR.keep hbn
        replace k12 := k12.keep hbn
        replace k13 := k13.keep hbn
        replace hP := hP.keep hbn
        replace hbb := bel_to hbb hbn
        clear hbn
        rw [HW.out] at hOS
        have HFS : Hid (FineP (ptnF n R m (one r))) := fine_ptnF (by omega)
        obtain ⟨oS, cS, rfl⟩ := hOS.shape
        have hQ := hOS.read (small_room HFS.out.1).1 (small_room HFS.out.1).2
        clear hOS
        obtain ⟨S, hSe⟩ : ∃ S, ptnF n R m (one r) = S := ⟨_, rfl⟩
        have HSE : Hid (ptnF n R m (one r) = S) := hSe
        rw [hSe] at hQ HFS
        simp only [hSe]
        clear hSe
        obtain ⟨B, hBe⟩ : ∃ B, ptnF n R m (uni l (one r)) = B := ⟨_, rfl⟩
        have HBE : Hid (ptnF n R m (uni l (one r)) = B) := hBe
        clear hBe
        have HPR : Hid (prodF P S R.length = B) := by show prodF P S R.length = B; rw [← HPE.out, ← HSE.out, ← HBE.out]; exact HL.out.prod
        have HFB : Hid (FineP B) := by show FineP B; rw [← HBE.out]; exact fine_ptnF (by omega)
        have n0 := k12.cell 0 (.int .i64 n) rfl
        have n1 := k12.cell 1 (.slice o R.length c) rfl
        have d0 := k13.cell 0 (.int .i64 l) rfl
        have d1 := k13.cell 1 (.int .i64 r) rfl
        go_wp2_with fail
        refine (c_ProductOf _ _ _ _ P S R.length (by omega) _ hP hQ).mono ?_
        rintro e w10 ⟨vX, xX, rfl, hOX, hbn⟩
        replace hB := hB.keep hbn
        replace hR := hR.keep hbn
        replace k12 := k12.keep hbn
        replace k13 := k13.keep hbn
        replace hP := hP.keep hbn
        replace hQ := hQ.keep hbn
        replace hbb := bel_to hbb hbn
        clear hbn
        clear n0 n1 d0 d1
        rw [HPR.out] at hOX
        obtain ⟨oX, cX, rfl⟩ := hOX.shape
        have hXR := hOX.read (small_room HFB.out.1).1 (small_room HFB.out.1).2
        clear hOX
        have n0 := k12.cell 0 (.int .i64 n) rfl
        have n1 := k12.cell 1 (.slice o R.length c) rfl
        have d0 := k13.cell 0 (.int .i64 l) rfl
        have d1 := k13.cell 1 (.int .i64 r) rfl
        have hR8 := hR
        go_upto_region 10 with fail
        refine wp_region_held_drew (S := fun w' => w'.cell? ⟨w2.heap.size, 0, none⟩ = some (.int .i64 n) ∧ w'.cell? ⟨w2.heap.size, 1, none⟩ = some (.slice o R.length c) ∧ w'.cell? ⟨(w2.heap.size + 1), 0, none⟩ = some (.int .i64 l) ∧ w'.cell? ⟨(w2.heap.size + 1), 1, none⟩ = some (.int .i64 r) ∧ Below w10.heap.size w10 w') (by kernel_rfl) ⟨cell_keep n0 (Below.refl _ _).drew, cell_keep n1 (Below.refl _ _).drew, cell_keep d0 (Below.refl _ _).drew, cell_keep d1 (Below.refl _ _).drew, (Below.refl _ _).drew⟩ (fun hS => ?_)
        (refine wpAnyH_val (i := 0) (some 74) ?_ rfl rfl (by kernel_rfl) (by kernel_rfl) (by kernel_rfl) (fun _ _ _ h => h) (by rfl) (by assumption) ?_ ?_; rotate_left; (intro w hSw; go_simp; (try with_reducible rfl)); (try simp only [Act.put, List.setIfInBounds_toArray, List.set_cons_zero, List.set_cons_succ])); (refine wpAnyH_val (i := 1) (some 75) ?_ rfl rfl (by kernel_rfl) (by kernel_rfl) (by kernel_rfl) (fun _ _ _ h => h) (by rfl) (by assumption) ?_ ?_; rotate_left; (intro w hSw; go_simp; (try with_reducible rfl)); (try simp only [Act.put, List.setIfInBounds_toArray, List.set_cons_zero, List.set_cons_succ])); (refine wpAnyH_val (i := 2) (some 76) ?_ rfl rfl (by kernel_rfl) (by kernel_rfl) (by kernel_rfl) (fun _ _ _ h => h) (by rfl) (by assumption) ?_ ?_; rotate_left; (intro w hSw; go_simp; (try with_reducible rfl)); (try simp only [Act.put, List.setIfInBounds_toArray, List.set_cons_zero, List.set_cons_succ])); (refine wpAnyH_val (i := 4) (some 78) ?_ rfl rfl (by kernel_rfl) (by kernel_rfl) (by kernel_rfl) (fun _ _ _ h => h) (by rfl) (by assumption) ?_ ?_; rotate_left; (intro w hSw; go_simp; (try with_reducible rfl)); (try simp only [Act.put, List.setIfInBounds_toArray, List.set_cons_zero, List.set_cons_succ])); (refine wpAnyH_val (i := 3) (some 77) ?_ rfl rfl (by kernel_rfl) (by kernel_rfl) (by kernel_rfl) (fun _ _ _ h => h) (by rfl) (by assumption) ?_ ?_; rotate_left; (intro w hSw; go_simp; (try with_reducible rfl)); (try simp only [Act.put, List.setIfInBounds_toArray, List.set_cons_zero, List.set_cons_succ])); (refine wpAnyH_val (i := 5) (some 79) ?_ rfl rfl (by kernel_rfl) (by kernel_rfl) (by kernel_rfl) (fun _ _ _ h => h) (by rfl) (by assumption) ?_ ?_; rotate_left; (intro w hSw; go_simp; (try with_reducible rfl)); (try simp only [Act.put, List.setIfInBounds_toArray, List.set_cons_zero, List.set_cons_succ])); (refine wpAnyH_val (i := 6) (some 80) ?_ rfl rfl (by kernel_rfl) (by kernel_rfl) (by kernel_rfl) (fun _ _ _ h => h) (by rfl) (by assumption) ?_ ?_; rotate_left; (intro w hSw; go_simp; (try with_reducible rfl)); (try simp only [Act.put, List.setIfInBounds_toArray, List.set_cons_zero, List.set_cons_succ])); (refine wpAnyH_val (i := 7) (some 81) ?_ rfl rfl (by kernel_rfl) (by kernel_rfl) (by kernel_rfl) (fun _ _ _ h => h) (by rfl) (by assumption) ?_ ?_; rotate_left; (intro w hSw; go_simp; (try with_reducible rfl)); (try simp only [Act.put, List.setIfInBounds_toArray, List.set_cons_zero, List.set_cons_succ]))
        (refine wpAnyH_ready (rs := [8]) (by kernel_rfl) (by simp) ?_; refine AllReadyH.cons rfl (fun K hK => ?_) AllReadyH.nil; go_simp)
        refine (c_specPartitionOf n o c R m (bits BinOp.or .i64 l (IntKind.i64.wrap (2 ^ r.toNat))) _ (hR8.keep hS.2.2.2.2)).mono ?_
        rintro e w11 ⟨vB, xB, rfl, hOB, hbn⟩
        have hS3 := (show _ ∧ _ ∧ _ ∧ _ ∧ Below w10.heap.size w10 _ from ⟨cell_keep hS.1 hbn, cell_keep hS.2.1 hbn, cell_keep hS.2.2.1 hbn, cell_keep hS.2.2.2.1 hbn, bel_to hS.2.2.2.2 hbn⟩)
        refine hK.out _ _ hS3 (fun hS2 => ?_)
        clear hK hbn hS hS2
        have hS := hS3
        clear hS3
        (try simp only [Act.put, List.setIfInBounds_toArray, List.set_cons_zero, List.set_cons_succ])
        (refine wpAnyH_val (i := 9) (some 9) ?_ rfl rfl (by kernel_rfl) (by kernel_rfl) (by kernel_rfl) (fun _ _ _ h => h) (by rfl) (by assumption) ?_ ?_; rotate_left; (intro w hSw; go_simp; (try with_reducible rfl)); (try simp only [Act.put, List.setIfInBounds_toArray, List.set_cons_zero, List.set_cons_succ]))
        refine wpAnyH_done (by kernel_rfl) ?_ _
        have hbn := hS.2.2.2.2
        clear hS n0 n1 d0 d1
        clear hR8
        replace hB := hB.keep hbn
        replace hR := hR.keep hbn
        replace k12 := k12.keep hbn
        replace k13 := k13.keep hbn
        replace hP := hP.keep hbn
        replace hQ := hQ.keep hbn
        replace hXR := hXR.keep hbn
        replace hbb := bel_to hbb hbn
        clear hbn
        rw [show bits BinOp.or .i64 l (IntKind.i64.wrap (2 ^ r.toNat)) = uni l (one r) by rw [HW.out]; rfl, HBE.out] at hOB
        obtain ⟨oB, cB, rfl⟩ := hOB.shape
        have hBR := hOB.read (small_room HFB.out.1).1 (small_room HFB.out.1).2
        clear hOB
        obtain ⟨hv, hve⟩ : ∃ h, holdsF R m l r = h := ⟨_, rfl⟩
        have HH : Hid ((askF n R m l r && holdsF R m l r) = hv) := by show (askF n R m l r && holdsF R m l r) = hv; rw [HL.out.ask, hve]; rfl
        have HER : Hid ((errF P == errF B) = hv) := by show (errF P == errF B) = hv; rw [← hve, HL.out.err, HPE.out, HBE.out]
        have HFI : Hid (finF P S = hv) := by show finF P S = hv; rw [← hve, HL.out.fin, HPE.out, HSE.out]
        have HF2 : Hid (finF B P = true) := by show finF B P = true; rw [← HBE.out, ← HPE.out]; exact HL.out.fin2
        have HPT : Hid (isPtnF P R.length = true) := by show isPtnF P R.length = true; rw [← HPE.out]; exact HL.out.ptn
        clear hve
        have n0 := k12.cell 0 (.int .i64 n) rfl
        have n1 := k12.cell 1 (.slice o R.length c) rfl
        have d0 := k13.cell 0 (.int .i64 l) rfl
        have d1 := k13.cell 1 (.int .i64 r) rfl
        go_wp2_with fail
        refine Calls.mono (Ans.eqb (c_HoldsDep n o c R m l r _ hR) HH.out) ?_
        rintro e w12 ⟨rfl, hbn⟩
        replace hB := hB.keep hbn
        replace hR := hR.keep hbn
        replace k12 := k12.keep hbn
        replace k13 := k13.keep hbn
        replace hP := hP.keep hbn
        replace hQ := hQ.keep hbn
        replace hXR := hXR.keep hbn
        replace hBR := hBR.keep hbn
        replace hbb := bel_to hbb hbn
        clear hbn
        clear n0 n1 d0 d1
        have hvv : (hv != hv) = false := by simp
        obtain ⟨ea, hea⟩ : ∃ x, errF P = x := ⟨_, rfl⟩
        obtain ⟨eb, heb⟩ : ∃ x, errF B = x := ⟨_, rfl⟩
        have HEA : Hid (errF P = ea) := hea
        have HEB : Hid (errF B = eb) := heb
        have heq : (ea == eb) = hv := by rw [← hea, ← heb]; exact HER.out
        clear hea heb
        have n0 := k12.cell 0 (.int .i64 n) rfl
        have n1 := k12.cell 1 (.slice o R.length c) rfl
        have d0 := k13.cell 0 (.int .i64 l) rfl
        have d1 := k13.cell 1 (.int .i64 r) rfl
        go_wp2_with fail
        refine Calls.mono (c_samePartition _ _ _ _ B _ hXR hBR) ?_
        rintro e w13 ⟨rfl, hbn⟩
        replace hB := hB.keep hbn
        replace hR := hR.keep hbn
        replace k12 := k12.keep hbn
        replace k13 := k13.keep hbn
        replace hP := hP.keep hbn
        replace hQ := hQ.keep hbn
        replace hXR := hXR.keep hbn
        replace hBR := hBR.keep hbn
        replace hbb := bel_to hbb hbn
        clear hbn
        clear n0 n1 d0 d1
        have n0 := k12.cell 0 (.int .i64 n) rfl
        have n1 := k12.cell 1 (.slice o R.length c) rfl
        have d0 := k13.cell 0 (.int .i64 l) rfl
        have d1 := k13.cell 1 (.int .i64 r) rfl
        go_wp2_with fail
        refine Calls.mono (Ans.eqi' (c_ErrorOf _ _ P _ hP HFP.out.1) HEA.out) ?_
        rintro e w14 ⟨rfl, hbn⟩
        replace hB := hB.keep hbn
        replace hR := hR.keep hbn
        replace k12 := k12.keep hbn
        replace k13 := k13.keep hbn
        replace hP := hP.keep hbn
        replace hQ := hQ.keep hbn
        replace hXR := hXR.keep hbn
        replace hBR := hBR.keep hbn
        replace hbb := bel_to hbb hbn
        clear hbn
        clear n0 n1 d0 d1
        have n0 := k12.cell 0 (.int .i64 n) rfl
        have n1 := k12.cell 1 (.slice o R.length c) rfl
        have d0 := k13.cell 0 (.int .i64 l) rfl
        have d1 := k13.cell 1 (.int .i64 r) rfl
        go_wp2_with fail
        refine Calls.mono (Ans.eqi' (c_ErrorOf _ _ B _ hBR HFB.out.1) HEB.out) ?_
        rintro e w15 ⟨rfl, hbn⟩
        replace hB := hB.keep hbn
        replace hR := hR.keep hbn
        replace k12 := k12.keep hbn
        replace k13 := k13.keep hbn
        replace hP := hP.keep hbn
        replace hQ := hQ.keep hbn
        replace hXR := hXR.keep hbn
        replace hBR := hBR.keep hbn
        replace hbb := bel_to hbb hbn
        clear hbn
        clear n0 n1 d0 d1
        have n0 := k12.cell 0 (.int .i64 n) rfl
        have n1 := k12.cell 1 (.slice o R.length c) rfl
        have d0 := k13.cell 0 (.int .i64 l) rfl
        have d1 := k13.cell 1 (.int .i64 r) rfl
        go_wp2_with fail
        refine Calls.mono (Ans.eqb (c_IsFiner _ _ _ _ P S _ hP hQ) HFI.out) ?_
        rintro e w16 ⟨rfl, hbn⟩
        replace hB := hB.keep hbn
        replace hR := hR.keep hbn
        replace k12 := k12.keep hbn
        replace k13 := k13.keep hbn
        replace hP := hP.keep hbn
        replace hQ := hQ.keep hbn
        replace hXR := hXR.keep hbn
        replace hBR := hBR.keep hbn
        replace hbb := bel_to hbb hbn
        clear hbn
        clear n0 n1 d0 d1
        have n0 := k12.cell 0 (.int .i64 n) rfl
        have n1 := k12.cell 1 (.slice o R.length c) rfl
        have d0 := k13.cell 0 (.int .i64 l) rfl
        have d1 := k13.cell 1 (.int .i64 r) rfl
        go_wp2_with fail
        refine Calls.mono (Ans.eqb (c_IsFiner _ _ _ _ B P _ hBR hP) HF2.out) ?_
        rintro e w17 ⟨rfl, hbn⟩
        replace hB := hB.keep hbn
        replace hR := hR.keep hbn
        replace k12 := k12.keep hbn
        replace k13 := k13.keep hbn
        replace hP := hP.keep hbn
        replace hQ := hQ.keep hbn
        replace hXR := hXR.keep hbn
        replace hBR := hBR.keep hbn
        replace hbb := bel_to hbb hbn
        clear hbn
        clear n0 n1 d0 d1
        have n0 := k12.cell 0 (.int .i64 n) rfl
        have n1 := k12.cell 1 (.slice o R.length c) rfl
        have d0 := k13.cell 0 (.int .i64 l) rfl
        have d1 := k13.cell 1 (.int .i64 r) rfl
        go_wp2_with fail
        refine Calls.mono (Ans.eqb (c_IsPartition _ _ P R.length (by omega) _ hP) HPT.out) ?_
        rintro e w18 ⟨rfl, hbn⟩
        replace hB := hB.keep hbn
        replace hR := hR.keep hbn
        replace k12 := k12.keep hbn
        replace k13 := k13.keep hbn
        replace hP := hP.keep hbn
        replace hQ := hQ.keep hbn
        replace hXR := hXR.keep hbn
        replace hBR := hBR.keep hbn
        replace hbb := bel_to hbb hbn
        clear hbn
        clear n0 n1 d0 d1
        go_wp2
        go_meet
        exact hbb
    case rest =>
      have hbn := hcut
      clear hcut
      replace hB := hB.keep hbn
      replace hR := hR.keep hbn
      replace k12 := k12.keep hbn
      replace k13 := k13.keep hbn
      replace hP := hP.keep hbn
      replace hb := bel_to hb hbn
      clear hbn
      generalize wc = w9 at *
      clear hR hP k12 k13
      go_wp2_with fail
      refine (c_DrawProductOf oc mc capc hmc _ hB).mono ?_
      rintro e w10 ⟨A, C, N, oA, oC, cA, cC, rfl, hA, hC, hsA, hsC, hN, hbn⟩
      replace hB := hB.keep hbn
      replace hb := bel_to hb hbn
      clear hbn
      have HSA : Hid (SmallP A) := hsA
      have HSC : Hid (SmallP C) := hsC
      clear hsA hsC
      go_wp2_with fail
      refine (c_DrawIsPartition oc mc capc hmc _ hB).mono ?_
      rintro e w11 ⟨D, D9, N2, oD, oD9, cD, cD9, rfl, hD, _, hsD, _, hN2, hbn⟩
      replace hB := hB.keep hbn
      replace hA := hA.keep hbn
      replace hC := hC.keep hbn
      replace hb := bel_to hb hbn
      clear hbn
      have HSD : Hid (SmallP D) := hsD
      clear hsD
      go_wp2_with fail
      refine (c_DrawIsFiner oc mc capc hmc _ hB).mono ?_
      rintro e w12 ⟨U, V, N9, oU, oV, cU, cV, rfl, hU, hV, hsU, hsV, _, hbn⟩
      replace hB := hB.keep hbn
      replace hA := hA.keep hbn
      replace hC := hC.keep hbn
      replace hD := hD.keep hbn
      replace hb := bel_to hb hbn
      clear hbn
      clear hsU hsV
      have HSX : Hid (SmallP (prodF A C N)) := small_prod hN
      go_wp2_with fail
      refine (c_ProductOf _ _ _ _ A C N hN _ hA hC).mono ?_
      rintro e w13 ⟨vX, xX, rfl, hOX, hbn⟩
      replace hB := hB.keep hbn
      replace hA := hA.keep hbn
      replace hC := hC.keep hbn
      replace hD := hD.keep hbn
      replace hU := hU.keep hbn
      replace hV := hV.keep hbn
      replace hb := bel_to hb hbn
      clear hbn
      obtain ⟨oX, cX, rfl⟩ := hOX.shape
      have hX := hOX.read (small_room HSX.out).1 (small_room HSX.out).2
      clear hOX
      go_wp2_with fail
      refine (c_specProductOf _ _ _ _ A C N hN _ hA hC HSA.out HSC.out).mono ?_
      rintro e w14 ⟨vY, xY, rfl, hOY, hbn⟩
      replace hB := hB.keep hbn
      replace hA := hA.keep hbn
      replace hC := hC.keep hbn
      replace hD := hD.keep hbn
      replace hU := hU.keep hbn
      replace hV := hV.keep hbn
      replace hX := hX.keep hbn
      replace hb := bel_to hb hbn
      clear hbn
      obtain ⟨oY, cY, rfl⟩ := hOY.shape
      have hY := hOY.read (small_room HSX.out).1 (small_room HSX.out).2
      clear hOY
      generalize prodF A C N = X at *
      go_wp2_with fail
      refine Calls.mono (c_samePartition _ _ _ _ X _ hX hY) ?_
      rintro e w15 ⟨rfl, hbn⟩
      replace hB := hB.keep hbn
      replace hA := hA.keep hbn
      replace hC := hC.keep hbn
      replace hD := hD.keep hbn
      replace hU := hU.keep hbn
      replace hV := hV.keep hbn
      replace hX := hX.keep hbn
      replace hY := hY.keep hbn
      replace hb := bel_to hb hbn
      clear hbn
      clear hX hY hA hC
      obtain ⟨t1, ht1⟩ : ∃ t, isPtnF D N2 = t := ⟨_, rfl⟩
      have HT1 : Hid (isPtnF D N2 = t1) := ht1
      have hq1 : (t1 == t1) = true := by simp
      clear ht1
      obtain ⟨t2, ht2⟩ : ∃ t, finF U V = t := ⟨_, rfl⟩
      have HT2 : Hid (finF U V = t2) := ht2
      have hq2 : (t2 == t2) = true := by simp
      clear ht2
      obtain ⟨t3, ht3⟩ : ∃ t, errF D = t := ⟨_, rfl⟩
      have HT3 : Hid (errF D = t3) := ht3
      have hq3 : (t3 == t3) = true := by simp
      clear ht3
      go_wp2_with fail
      refine Calls.mono (Ans.eqb (c_IsPartition _ _ D N2 hN2 _ hD) HT1.out) ?_
      rintro e w16 ⟨rfl, hbn⟩
      replace hB := hB.keep hbn
      replace hD := hD.keep hbn
      replace hU := hU.keep hbn
      replace hV := hV.keep hbn
      replace hb := bel_to hb hbn
      clear hbn
      go_wp2_with fail
      refine Calls.mono (Ans.eqb (c_specIsPartition _ _ D N2 hN2 _ hD HSD.out) HT1.out) ?_
      rintro e w17 ⟨rfl, hbn⟩
      replace hB := hB.keep hbn
      replace hD := hD.keep hbn
      replace hU := hU.keep hbn
      replace hV := hV.keep hbn
      replace hb := bel_to hb hbn
      clear hbn
      go_wp2_with fail
      refine Calls.mono (Ans.eqb (c_IsFiner _ _ _ _ U V _ hU hV) HT2.out) ?_
      rintro e w18 ⟨rfl, hbn⟩
      replace hB := hB.keep hbn
      replace hD := hD.keep hbn
      replace hU := hU.keep hbn
      replace hV := hV.keep hbn
      replace hb := bel_to hb hbn
      clear hbn
      go_wp2_with fail
      refine Calls.mono (Ans.eqb (c_specIsFiner _ _ _ _ U V _ hU hV) HT2.out) ?_
      rintro e w19 ⟨rfl, hbn⟩
      replace hB := hB.keep hbn
      replace hD := hD.keep hbn
      replace hU := hU.keep hbn
      replace hV := hV.keep hbn
      replace hb := bel_to hb hbn
      clear hbn
      go_wp2_with fail
      refine Calls.mono (Ans.eqi' (c_ErrorOf _ _ D _ hD HSD.out) HT3.out) ?_
      rintro e w20 ⟨rfl, hbn⟩
      replace hB := hB.keep hbn
      replace hD := hD.keep hbn
      replace hU := hU.keep hbn
      replace hV := hV.keep hbn
      replace hb := bel_to hb hbn
      clear hbn
      go_wp2_with fail
      refine Calls.mono (Ans.eqi' (c_specErrorOf _ _ D _ hD HSD.out) HT3.out) ?_
      rintro e w21 ⟨rfl, hbn⟩
      replace hB := hB.keep hbn
      replace hD := hD.keep hbn
      replace hU := hU.keep hbn
      replace hV := hV.keep hbn
      replace hb := bel_to hb hbn
      clear hbn
      go_wp2
      go_ret
      exact ⟨rfl, hb⟩
end Go.Proofs.YtcenndlbhgfdfaaDoor
