/- Contracts and lemmas for FnDeps, part 5 of 5. -/
import Derived.Test.YtcenndlbhgfdfaaQFnDeps1
import Derived.Test.YtcenndlbhgfdfaaQFnDeps2
import Derived.Test.YtcenndlbhgfdfaaQFnDeps3
import Derived.Test.YtcenndlbhgfdfaaQFnDeps4
import Derived.Deep.RegionHeld3
import Derived.Deep.CutRange
namespace Go.Proofs.Ytcenndlbhgfdfaa
open Go.RowKit
set_option linter.unusedVariables false
set_option maxRecDepth 100000

/-- The rows R' are gathered in w, in a list of one's own since `base`; each row lies as it lay in w0. -/
structure SubAt (w0 w : World) (base : Nat) (o : Option Addr) (c : Nat) (ys : List Value) (R' : List (List Int)) : Prop where
  own : w.ownsRow base 37 1 (.slice o R'.length c) R'.length ys
  rows : ∀ i, i < R'.length → ∃ o c, ys[i]? = some (.slice o (row R' i).length c) ∧ IntsAt w0 o (row R' i)
theorem SubAt.zero (w0 w : World) (base : Nat) : SubAt w0 w base none 0 [] [] := ⟨.inl ⟨rfl, rfl⟩ |> fun h => ⟨rfl, h⟩, fun i hi => absurd hi (Nat.not_lt_zero _)⟩
theorem SubAt.keep {w0 w w' : World} {base : Nat} {o : Option Addr} {c : Nat} {ys : List Value} {R' : List (List Int)} (h : SubAt w0 w base o c ys R') (hb : Below w.heap.size w w') : SubAt w0 w' base o c ys R' := ⟨owns_keep h.own hb, h.rows⟩
theorem SubAt.read {w0 w : World} {base : Nat} {o : Option Addr} {c : Nat} {ys : List Value} {R' : List (List Int)} (h : SubAt w0 w base o c ys R') (hb : Below w0.heap.size w0 w) (hl : R'.length ≤ Room) : RowsAt w o R' :=
  ⟨hl, fun h0 => by
    obtain ⟨oa, cap, e, hc⟩ := owns_cells h.own
    injection e with e1 e2 e3
    subst e1
    obtain ⟨g, rfl, _, hlt, _, hcell, _⟩ := hc h0
    refine ⟨g, 0, rfl, by first | exact hlt | omega, fun k hk => ?_⟩
    obtain ⟨o1, c1, h1, h2⟩ := h.rows k hk
    exact ⟨o1, c1, by rw [Nat.zero_add, hcell k (by omega)]; exact h1, h2.keep hb⟩⟩
theorem SubAt.app {w0 w w7 : World} {n : Int} {o : Option Addr} {c : Nat} {ys : List Value} {R' : List (List Int)} {L : List Int} {o1 : Option Addr} {c1 : Nat} {v' : Value} {ob : Obj} {T : TypeId}
    (h : SubAt w0 w (w0.heap.size + 1) o c ys R') (kX : Blk w w0.heap.size #[.int .i64 n, .slice o R'.length c] T) (hb : Below w0.heap.size w0 w) (hr : IntsAt w0 o1 L)
    (hown : w7.ownsRow (w0.heap.size + 1) 37 1 v' (R'.length + 1) (ys ++ [.slice o1 L.length c1])) (hgrow : (w.alloc ob).grownBy w7 (Value.slice o R'.length c).ownBlock) :
    ∃ o7 c7, v' = .slice o7 (R'.length + 1) c7 ∧ w7.cell? ⟨w0.heap.size, 1, none⟩ = some (.slice o R'.length c) ∧ w7.frozen? ⟨w0.heap.size, 1, none⟩ = false ∧
      Blk (w7.setCell ⟨w0.heap.size, 1, none⟩ (.slice o7 (R'.length + 1) c7)) w0.heap.size #[.int .i64 n, .slice o7 (R' ++ [L]).length c7] T ∧
      SubAt w0 (w7.setCell ⟨w0.heap.size, 1, none⟩ (.slice o7 (R'.length + 1) c7)) (w0.heap.size + 1) o7 c7 (ys ++ [.slice o1 L.length c1]) (R' ++ [L]) ∧
      Below w0.heap.size w0 (w7.setCell ⟨w0.heap.size, 1, none⟩ (.slice o7 (R'.length + 1) c7)) := by
  have hl : (R' ++ [L]).length = R'.length + 1 := by simp
  have hlow : ∀ k, (Value.slice o R'.length c).ownBlock = some k → w0.heap.size + 1 ≤ k := fun k e => (World.ownsRow.lt h.own k e).1
  have hy : ys.length = R'.length := by
    have := h.own.1
    simpa using this
  obtain ⟨o7, c7, rfl, _⟩ := owns_cells hown
  have kg7 := (kX.alloc ob).grown hgrow (fun e => by have := hlow _ e.symm; omega)
  have hb7 : Below w0.heap.size w0 w7 := (hb.alloc hb.size ob).grown hgrow (by have := hb.size; simp; omega) (fun k e => by have := hlow k e; omega)
  refine ⟨o7, c7, rfl, kg7.cell 1 _ rfl, kg7.free 1, ?_, ⟨?_, fun i hi => ?_⟩, Below.setCell (p := ⟨w0.heap.size, 1, none⟩) hb7 (Nat.le_refl _) _⟩
  · rw [hl]; exact kg7.set 1 _
  · rw [hl]
    exact ownsRow_setCell_other hown (a := ⟨w0.heap.size, 1, none⟩) (fun e => by have := (World.ownsRow.lt hown _ e).1; simp at this; omega) _
  · by_cases hlt : i < R'.length
    · obtain ⟨o2, c2, h1, h2⟩ := h.rows i hlt
      exact ⟨o2, c2, by rw [row_append_lt hlt, List.getElem?_append_left (by omega)]; exact h1, by rw [row_append_lt hlt]; exact h2⟩
    · have e : i = R'.length := by simp at hi; omega
      subst e
      refine ⟨o1, c1, ?_, by rw [row_append_end]; exact hr⟩
      rw [row_append_end, ← hy]
      simp
end Go.Proofs.Ytcenndlbhgfdfaa
namespace Go.Proofs.Ytcenndlbhgfdfaa
open Go.RowKit
set_option linter.unusedVariables false
set_option maxRecDepth 100000

theorem c_big (oa) (m cap : Nat) (w : World) : Ans Try.prog 4 #[.slice oa m cap] w (.bool (decide ((1048576 : Int) < m))) := by
  unfold Ans
  go_enter Try.func4, Try.ntmps4
  go_wp2
  go_ret
  exact ⟨ret_bool (by simp), Below.refl _ _⟩
end Go.Proofs.Ytcenndlbhgfdfaa
namespace Go.Proofs.Ytcenndlbhgfdfaa
open Go.RowKit
set_option linter.unusedVariables false
set_option maxRecDepth 100000

theorem bel_world {B : Nat} {w0 w : World} (h : Below B w0 w) : ∃ w', w' = w := ⟨w, rfl⟩
theorem sub_le (R : List (List Int)) (s : Nat → Bool) (k : Nat) : (subT R s k).length ≤ k := by
  unfold subT
  rw [List.length_map]
  exact Nat.le_trans (List.length_filter_le _ _) (by simp)
theorem pow13 {n : Nat} (h : n ≤ 13) : wrap64 (2 ^ n) = 2 ^ n := by
  have h : ∀ n < 14, wrap64 (2 ^ n) = 2 ^ n := by decide +kernel
  exact h n (by omega)
theorem pow7 {n : Nat} (h : n ≤ 7) : wrap64 (2 ^ n) = 2 ^ n ∧ (2 : Int) ^ n ≤ 128 := by
  have h : ∀ n < 8, wrap64 (2 ^ n) = 2 ^ n ∧ (2 : Int) ^ n ≤ 128 := by decide +kernel
  exact h n (by omega)
theorem parse_fmt {n : Int} {s : List UInt8} {x y : Int} (h : parseF n s = (x, y, true)) : fmtD x y = s := by
  rw [← parse_eq] at h
  unfold parseI at h
  split at h
  · next hh =>
    simp only [Bool.and_eq_true, beq_iff_eq] at hh
    injection h with h1 h2
    injection h2 with h2 h3
    rw [← h1, ← h2]
    exact hh.2.2.2.2
  · injection h with h1 h2
    injection h2 with h2 h3
    cases h3
set_option maxHeartbeats 100000000 in
theorem w_FnDeps (w : World) {v0 : Value} (hmx : ∃ m, w.cell? ⟨0, 0, none⟩ = some (.int .i64 m)) (w0 : InBytes w v0) :
    Calls Try.prog 3 #[v0] w fun e w' => e = .returned (.bool true) ∧ Below w.heap.size w w' := by
  obtain ⟨oc, mc, capc, rfl, hmm, hB⟩ := w0
  have hb := Below.refl w.heap.size w
  by_cases hbig : (1048576 : Int) < mc
  · go_enter Try.func3, Try.ntmps3
    go_wp2_with fail
    refine Calls.mono (Ans.eqb (b' := true) (c_big _ _ _ _) (by simpa using hbig)) ?_
    rintro e w1 ⟨rfl, hbn⟩
    replace hb := bel_to hb hbn
    go_wp2
    go_ret
    exact ⟨rfl, hb⟩
  have hmc : mc ≤ 1048576 := by omega
  go_enter Try.func3, Try.ntmps3
  go_wp2_with fail
  refine Calls.mono (Ans.eqb (b' := false) (c_big _ _ _ _) (by simp only [decide_eq_false_iff_not]; omega)) ?_
  rintro e w1 ⟨rfl, hbn⟩
  replace hB := hB.keep hbn
  replace hb := bel_to hb hbn
  clear hbn
  clear hbig
  obtain ⟨j0, hj0, hy0, hy1, hy2⟩ := info_parts info_ints
  go_wp2_with fail
  have H := c_DrawRowsToRemove oc mc capc hmc _ hB
  unfold DrawsTabP at H
  refine H.mono ?_
  clear H
  rintro e w2 ⟨n, m, o, c, xs, R, l, r, rfl, hO, ⟨hOl, hOlen⟩, hbn⟩
  replace hB := hB.keep hbn
  replace hb := bel_to hb hbn
  clear hbn
  have hOR : R.length ≤ Room := by unfold Room; omega
  have HOr : Hid (∀ j, j < R.length → (row R j).length ≤ Room) := fun j hj => Nat.le_trans (hOlen j hj) (by unfold Room; omega)
  clear hOlen
  have k12 := (Blk.new w2 #[.int .i64 n, .slice o R.length c] 26).alloc (.cells #[.int .i64 l, .int .i64 r] 28)
  have k13 := Blk.new (w2.alloc (.cells #[.int .i64 n, .slice o R.length c] 26)) #[.int .i64 l, .int .i64 r] 28
  simp only [World.size_alloc] at k13
  have hbn := bel2 w2 (.cells #[.int .i64 n, .slice o R.length c] 26) (.cells #[.int .i64 l, .int .i64 r] 28)
  replace hB := hB.keep hbn
  replace hO := hO.keep hbn
  replace hb := bel_to hb hbn
  clear hbn
  obtain ⟨h, HH⟩ : ∃ h, Hid ((askF n R m l r && holdsF R m l r) = h) := ⟨_, rfl⟩
  obtain ⟨z, HZ⟩ : ∃ z, Hid (rrF n R m l r = z) := ⟨_, rfl⟩
  obtain ⟨v, HV⟩ : ∃ v, Hid ((askF n R m l r && !holdsF R m l r) = v) := ⟨_, rfl⟩
  have n0 := k12.cell 0 (.int .i64 n) rfl
  have n1 := k12.cell 1 (.slice o R.length c) rfl
  have d0 := k13.cell 0 (.int .i64 l) rfl
  have d1 := k13.cell 1 (.int .i64 r) rfl
  go_wp2_with fail
  refine Calls.mono (Ans.eqb (c_HoldsDep n o c R m l r _ (hO.read hOR HOr.out)) HH.out) ?_
  rintro e w3 ⟨rfl, hbn⟩
  replace hB := hB.keep hbn
  replace hO := hO.keep hbn
  replace k12 := k12.keep hbn
  replace k13 := k13.keep hbn
  replace hb := bel_to hb hbn
  clear hbn
  clear n0 n1 d0 d1
  have n0 := k12.cell 0 (.int .i64 n) rfl
  have n1 := k12.cell 1 (.slice o R.length c) rfl
  have d0 := k13.cell 0 (.int .i64 l) rfl
  have d1 := k13.cell 1 (.int .i64 r) rfl
  go_wp2_with fail
  refine Calls.mono (HZ.out ▸ c_RowsToRemove n o c R m l r _ (hO.read hOR HOr.out)) ?_
  rintro e w4 ⟨rfl, hbn⟩
  replace hB := hB.keep hbn
  replace hO := hO.keep hbn
  replace k12 := k12.keep hbn
  replace k13 := k13.keep hbn
  replace hb := bel_to hb hbn
  clear hbn
  clear n0 n1 d0 d1
  have n0 := k12.cell 0 (.int .i64 n) rfl
  have n1 := k12.cell 1 (.slice o R.length c) rfl
  have d0 := k13.cell 0 (.int .i64 l) rfl
  have d1 := k13.cell 1 (.int .i64 r) rfl
  go_wp2_with fail
  refine (c_WitnessOf2 n o c R m l r _ (hO.read hOR HOr.out)).mono ?_
  rintro e w5 ⟨⟨x, y, rfl, hW1⟩, hbn⟩
  rw [HV.out]
  replace hB := hB.keep hbn
  replace hO := hO.keep hbn
  replace k12 := k12.keep hbn
  replace k13 := k13.keep hbn
  replace hb := bel_to hb hbn
  clear hbn
  clear n0 n1 d0 d1
  have n0 := k12.cell 0 (.int .i64 n) rfl
  have n1 := k12.cell 1 (.slice o R.length c) rfl
  have d0 := k13.cell 0 (.int .i64 l) rfl
  have d1 := k13.cell 1 (.int .i64 r) rfl
  go_wp2_with fail
  refine (c_specWitnessOf n o c R m l r _ (hO.read hOR HOr.out)).mono ?_
  rintro e w6 ⟨⟨x', y', rfl, hW2⟩, hbn⟩
  rw [HV.out]
  obtain ⟨rfl, rfl⟩ := hW1.same hW2
  clear hW1 hW2
  replace hB := hB.keep hbn
  replace hO := hO.keep hbn
  replace k12 := k12.keep hbn
  replace k13 := k13.keep hbn
  replace hb := bel_to hb hbn
  clear hbn
  clear n0 n1 d0 d1
  have hq1 : (h != h) = false := by simp
  have hq2 : (v != v) = false := by simp
  obtain ⟨b9, H9⟩ : ∃ b, Hid (isDepF n l r = b) := ⟨_, rfl⟩
  have hq3 : (b9 != b9) = false := by simp
  have hd := hO.read hOR HOr.out
  have n0 := k12.cell 0 (.int .i64 n) rfl
  have n1 := k12.cell 1 (.slice o R.length c) rfl
  have d0 := k13.cell 0 (.int .i64 l) rfl
  have d1 := k13.cell 1 (.int .i64 r) rfl
  go_upto_region 8 with fail
  refine wp_region_held_drew (S := fun w' => w'.cell? ⟨w2.heap.size, 0, none⟩ = some (.int .i64 n) ∧ w'.cell? ⟨w2.heap.size, 1, none⟩ = some (.slice o R.length c) ∧ w'.cell? ⟨(w2.heap.size + 1), 0, none⟩ = some (.int .i64 l) ∧ w'.cell? ⟨(w2.heap.size + 1), 1, none⟩ = some (.int .i64 r) ∧ Below w6.heap.size w6 w') (by kernel_rfl) ⟨cell_keep n0 (Below.refl _ _).drew, cell_keep n1 (Below.refl _ _).drew, cell_keep d0 (Below.refl _ _).drew, cell_keep d1 (Below.refl _ _).drew, (Below.refl _ _).drew⟩ (fun hS => ?_)
  (refine wpAnyH_val (i := 0) (some 55) ?_ rfl rfl (by kernel_rfl) (by kernel_rfl) (by kernel_rfl) (fun _ _ _ h => h) (by rfl) (by assumption) ?_ ?_; rotate_left; (intro w hSw; go_simp; (try with_reducible rfl)); (try simp only [Act.put, List.setIfInBounds_toArray, List.set_cons_zero, List.set_cons_succ])); (refine wpAnyH_val (i := 1) (some 56) ?_ rfl rfl (by kernel_rfl) (by kernel_rfl) (by kernel_rfl) (fun _ _ _ h => h) (by rfl) (by assumption) ?_ ?_; rotate_left; (intro w hSw; go_simp; (try with_reducible rfl)); (try simp only [Act.put, List.setIfInBounds_toArray, List.set_cons_zero, List.set_cons_succ])); (refine wpAnyH_val (i := 2) (some 57) ?_ rfl rfl (by kernel_rfl) (by kernel_rfl) (by kernel_rfl) (fun _ _ _ h => h) (by rfl) (by assumption) ?_ ?_; rotate_left; (intro w hSw; go_simp; (try with_reducible rfl)); (try simp only [Act.put, List.setIfInBounds_toArray, List.set_cons_zero, List.set_cons_succ])); (refine wpAnyH_val (i := 3) (some 58) ?_ rfl rfl (by kernel_rfl) (by kernel_rfl) (by kernel_rfl) (fun _ _ _ h => h) (by rfl) (by assumption) ?_ ?_; rotate_left; (intro w hSw; go_simp; (try with_reducible rfl)); (try simp only [Act.put, List.setIfInBounds_toArray, List.set_cons_zero, List.set_cons_succ]))
  (refine wpAnyH_ready (rs := [4]) (by kernel_rfl) (by simp) ?_; refine AllReadyH.cons rfl (fun K hK => ?_) AllReadyH.nil; go_simp)
  refine Calls.mono (Ans.eqb (c_specHoldsDep n o c R m l r _ (hd.keep hS.2.2.2.2)) HH.out) ?_
  rintro e wz ⟨rfl, hbn⟩
  have hS3 := (show _ ∧ _ ∧ _ ∧ _ ∧ Below w6.heap.size w6 _ from ⟨cell_keep hS.1 hbn, cell_keep hS.2.1 hbn, cell_keep hS.2.2.1 hbn, cell_keep hS.2.2.2.1 hbn, bel_to hS.2.2.2.2 hbn⟩)
  refine hK.out _ _ hS3 (fun hS2 => ?_)
  clear hK hbn hS hS2
  have hS := hS3
  clear hS3
  (try simp only [Act.put, List.setIfInBounds_toArray, List.set_cons_zero, List.set_cons_succ])
  (refine wpAnyH_val (i := 5) (some 60) ?_ rfl rfl (by kernel_rfl) (by kernel_rfl) (by kernel_rfl) (fun _ _ _ h => h) (by rfl) (by assumption) ?_ ?_; rotate_left; (intro w hSw; go_simp; (try with_reducible rfl)); (try simp only [Act.put, List.setIfInBounds_toArray, List.set_cons_zero, List.set_cons_succ])); (refine wpAnyH_val (i := 6) (some 61) ?_ rfl rfl (by kernel_rfl) (by kernel_rfl) (by kernel_rfl) (fun _ _ _ h => h) (by rfl) (by assumption) ?_ ?_; rotate_left; (intro w hSw; go_simp; (try with_reducible rfl)); (try simp only [Act.put, List.setIfInBounds_toArray, List.set_cons_zero, List.set_cons_succ])); (refine wpAnyH_val (i := 7) (some 62) ?_ rfl rfl (by kernel_rfl) (by kernel_rfl) (by kernel_rfl) (fun _ _ _ h => h) (by rfl) (by assumption) ?_ ?_; rotate_left; (intro w hSw; go_simp; (try with_reducible rfl)); (try simp only [Act.put, List.setIfInBounds_toArray, List.set_cons_zero, List.set_cons_succ])); (refine wpAnyH_val (i := 8) (some 63) ?_ rfl rfl (by kernel_rfl) (by kernel_rfl) (by kernel_rfl) (fun _ _ _ h => h) (by rfl) (by assumption) ?_ ?_; rotate_left; (intro w hSw; go_simp; (try with_reducible rfl)); (try simp only [Act.put, List.setIfInBounds_toArray, List.set_cons_zero, List.set_cons_succ])); (refine wpAnyH_val (i := 9) (some 64) ?_ rfl rfl (by kernel_rfl) (by kernel_rfl) (by kernel_rfl) (fun _ _ _ h => h) (by rfl) (by assumption) ?_ ?_; rotate_left; (intro w hSw; go_simp; (try with_reducible rfl)); (try simp only [Act.put, List.setIfInBounds_toArray, List.set_cons_zero, List.set_cons_succ])); (refine wpAnyH_val (i := 10) (some 65) ?_ rfl rfl (by kernel_rfl) (by kernel_rfl) (by kernel_rfl) (fun _ _ _ h => h) (by rfl) (by assumption) ?_ ?_; rotate_left; (intro w hSw; go_simp; (try with_reducible rfl)); (try simp only [Act.put, List.setIfInBounds_toArray, List.set_cons_zero, List.set_cons_succ]))
  (refine wpAnyH_ready (rs := [11]) (by kernel_rfl) (by simp) ?_; refine AllReadyH.cons rfl (fun K hK => ?_) AllReadyH.nil; go_simp)
  refine Calls.mono (HZ.out ▸ c_specRowsToRemove n o c R m l r _ (hd.keep hS.2.2.2.2)) ?_
  rintro e wz ⟨rfl, hbn⟩
  have hS3 := (show _ ∧ _ ∧ _ ∧ _ ∧ Below w6.heap.size w6 _ from ⟨cell_keep hS.1 hbn, cell_keep hS.2.1 hbn, cell_keep hS.2.2.1 hbn, cell_keep hS.2.2.2.1 hbn, bel_to hS.2.2.2.2 hbn⟩)
  refine hK.out _ _ hS3 (fun hS2 => ?_)
  clear hK hbn hS hS2
  have hS := hS3
  clear hS3
  (try simp only [Act.put, List.setIfInBounds_toArray, List.set_cons_zero, List.set_cons_succ])
  (refine wpAnyH_val (i := 12) (some 67) ?_ rfl rfl (by kernel_rfl) (by kernel_rfl) (by kernel_rfl) (fun _ _ _ h => h) (by rfl) (by assumption) ?_ ?_; rotate_left; (intro w hSw; go_simp; (try with_reducible rfl)); (try simp only [Act.put, List.setIfInBounds_toArray, List.set_cons_zero, List.set_cons_succ])); (refine wpAnyH_val (i := 13) (some 68) ?_ rfl rfl (by kernel_rfl) (by kernel_rfl) (by kernel_rfl) (fun _ _ _ h => h) (by rfl) (by assumption) ?_ ?_; rotate_left; (intro w hSw; go_simp; (try with_reducible rfl)); (try simp only [Act.put, List.setIfInBounds_toArray, List.set_cons_zero, List.set_cons_succ])); (refine wpAnyH_val (i := 14) (some 69) ?_ rfl rfl (by kernel_rfl) (by kernel_rfl) (by kernel_rfl) (fun _ _ _ h => h) (by rfl) (by assumption) ?_ ?_; rotate_left; (intro w hSw; go_simp; (try with_reducible rfl)); (try simp only [Act.put, List.setIfInBounds_toArray, List.set_cons_zero, List.set_cons_succ])); (refine wpAnyH_val (i := 15) (some 70) ?_ rfl rfl (by kernel_rfl) (by kernel_rfl) (by kernel_rfl) (fun _ _ _ h => h) (by rfl) (by assumption) ?_ ?_; rotate_left; (intro w hSw; go_simp; (try with_reducible rfl)); (try simp only [Act.put, List.setIfInBounds_toArray, List.set_cons_zero, List.set_cons_succ])); (refine wpAnyH_val (i := 16) (some 71) ?_ rfl rfl (by kernel_rfl) (by kernel_rfl) (by kernel_rfl) (fun _ _ _ h => h) (by rfl) (by assumption) ?_ ?_; rotate_left; (intro w hSw; go_simp; (try with_reducible rfl)); (try simp only [Act.put, List.setIfInBounds_toArray, List.set_cons_zero, List.set_cons_succ])); (refine wpAnyH_val (i := 17) (some 72) ?_ rfl rfl (by kernel_rfl) (by kernel_rfl) (by kernel_rfl) (fun _ _ _ h => h) (by rfl) (by assumption) ?_ ?_; rotate_left; (intro w hSw; go_simp; (try with_reducible rfl)); (try simp only [Act.put, List.setIfInBounds_toArray, List.set_cons_zero, List.set_cons_succ])); (refine wpAnyH_val (i := 18) (some 73) ?_ rfl rfl (by kernel_rfl) (by kernel_rfl) (by kernel_rfl) (fun _ _ _ h => h) (by rfl) (by assumption) ?_ ?_; rotate_left; (intro w hSw; go_simp; (try with_reducible rfl)); (try simp only [Act.put, List.setIfInBounds_toArray, List.set_cons_zero, List.set_cons_succ])); (refine wpAnyH_val (i := 19) (some 74) ?_ rfl rfl (by kernel_rfl) (by kernel_rfl) (by kernel_rfl) (fun _ _ _ h => h) (by rfl) (by assumption) ?_ ?_; rotate_left; (intro w hSw; go_simp; (try with_reducible rfl)); (try simp only [Act.put, List.setIfInBounds_toArray, List.set_cons_zero, List.set_cons_succ])); (refine wpAnyH_val (i := 20) (some 75) ?_ rfl rfl (by kernel_rfl) (by kernel_rfl) (by kernel_rfl) (fun _ _ _ h => h) (by rfl) (by assumption) ?_ ?_; rotate_left; (intro w hSw; go_simp; (try with_reducible rfl)); (try simp only [Act.put, List.setIfInBounds_toArray, List.set_cons_zero, List.set_cons_succ])); (refine wpAnyH_val (i := 21) (some 76) ?_ rfl rfl (by kernel_rfl) (by kernel_rfl) (by kernel_rfl) (fun _ _ _ h => h) (by rfl) (by assumption) ?_ ?_; rotate_left; (intro w hSw; go_simp; (try with_reducible rfl)); (try simp only [Act.put, List.setIfInBounds_toArray, List.set_cons_zero, List.set_cons_succ])); (refine wpAnyH_val (i := 22) (some 77) ?_ rfl rfl (by kernel_rfl) (by kernel_rfl) (by kernel_rfl) (fun _ _ _ h => h) (by rfl) (by assumption) ?_ ?_; rotate_left; (intro w hSw; go_simp; (try with_reducible rfl)); (try simp only [Act.put, List.setIfInBounds_toArray, List.set_cons_zero, List.set_cons_succ])); (refine wpAnyH_val (i := 23) (some 78) ?_ rfl rfl (by kernel_rfl) (by kernel_rfl) (by kernel_rfl) (fun _ _ _ h => h) (by rfl) (by assumption) ?_ ?_; rotate_left; (intro w hSw; go_simp; (try with_reducible rfl)); (try simp only [Act.put, List.setIfInBounds_toArray, List.set_cons_zero, List.set_cons_succ])); (refine wpAnyH_val (i := 24) (some 79) ?_ rfl rfl (by kernel_rfl) (by kernel_rfl) (by kernel_rfl) (fun _ _ _ h => h) (by rfl) (by assumption) ?_ ?_; rotate_left; (intro w hSw; go_simp; (try with_reducible rfl)); (try simp only [Act.put, List.setIfInBounds_toArray, List.set_cons_zero, List.set_cons_succ])); (refine wpAnyH_val (i := 25) (some 80) ?_ rfl rfl (by kernel_rfl) (by kernel_rfl) (by kernel_rfl) (fun _ _ _ h => h) (by rfl) (by assumption) ?_ ?_; rotate_left; (intro w hSw; go_simp; (try with_reducible rfl)); (try simp only [Act.put, List.setIfInBounds_toArray, List.set_cons_zero, List.set_cons_succ])); (refine wpAnyH_val (i := 26) (some 81) ?_ rfl rfl (by kernel_rfl) (by kernel_rfl) (by kernel_rfl) (fun _ _ _ h => h) (by rfl) (by assumption) ?_ ?_; rotate_left; (intro w hSw; go_simp; (try with_reducible rfl)); (try simp only [Act.put, List.setIfInBounds_toArray, List.set_cons_zero, List.set_cons_succ])); (refine wpAnyH_val (i := 27) (some 82) ?_ rfl rfl (by kernel_rfl) (by kernel_rfl) (by kernel_rfl) (fun _ _ _ h => h) (by rfl) (by assumption) ?_ ?_; rotate_left; (intro w hSw; go_simp; (try with_reducible rfl)); (try simp only [Act.put, List.setIfInBounds_toArray, List.set_cons_zero, List.set_cons_succ])); (refine wpAnyH_val (i := 28) (some 83) ?_ rfl rfl (by kernel_rfl) (by kernel_rfl) (by kernel_rfl) (fun _ _ _ h => h) (by rfl) (by assumption) ?_ ?_; rotate_left; (intro w hSw; go_simp; (try with_reducible rfl)); (try simp only [Act.put, List.setIfInBounds_toArray, List.set_cons_zero, List.set_cons_succ])); (refine wpAnyH_val (i := 29) (some 84) ?_ rfl rfl (by kernel_rfl) (by kernel_rfl) (by kernel_rfl) (fun _ _ _ h => h) (by rfl) (by assumption) ?_ ?_; rotate_left; (intro w hSw; go_simp; (try with_reducible rfl)); (try simp only [Act.put, List.setIfInBounds_toArray, List.set_cons_zero, List.set_cons_succ])); (refine wpAnyH_val (i := 30) (some 85) ?_ rfl rfl (by kernel_rfl) (by kernel_rfl) (by kernel_rfl) (fun _ _ _ h => h) (by rfl) (by assumption) ?_ ?_; rotate_left; (intro w hSw; go_simp; (try with_reducible rfl)); (try simp only [Act.put, List.setIfInBounds_toArray, List.set_cons_zero, List.set_cons_succ])); (refine wpAnyH_val (i := 32) (some 87) ?_ rfl rfl (by kernel_rfl) (by kernel_rfl) (by kernel_rfl) (fun _ _ _ h => h) (by rfl) (by assumption) ?_ ?_; rotate_left; (intro w hSw; go_simp; (try with_reducible rfl)); (try simp only [Act.put, List.setIfInBounds_toArray, List.set_cons_zero, List.set_cons_succ]))
  (refine wpAnyH_ready (rs := [31]) (by kernel_rfl) (by simp) ?_; refine AllReadyH.cons rfl (fun K hK => ?_) AllReadyH.nil; go_simp)
  refine Calls.mono (c_FormatDep l r _) ?_
  rintro e wz ⟨rfl, hbn⟩
  have hS3 := (show _ ∧ _ ∧ _ ∧ _ ∧ Below w6.heap.size w6 _ from ⟨cell_keep hS.1 hbn, cell_keep hS.2.1 hbn, cell_keep hS.2.2.1 hbn, cell_keep hS.2.2.2.1 hbn, bel_to hS.2.2.2.2 hbn⟩)
  refine hK.out _ _ hS3 (fun hS2 => ?_)
  clear hK hbn hS hS2
  have hS := hS3
  clear hS3
  (try simp only [Act.put, List.setIfInBounds_toArray, List.set_cons_zero, List.set_cons_succ])
  (refine wpAnyH_ready (rs := [33]) (by kernel_rfl) (by simp) ?_; refine AllReadyH.cons rfl (fun K hK => ?_) AllReadyH.nil; go_simp)
  refine Calls.mono (c_specFormatDep l r _) ?_
  rintro e wz ⟨rfl, hbn⟩
  have hS3 := (show _ ∧ _ ∧ _ ∧ _ ∧ Below w6.heap.size w6 _ from ⟨cell_keep hS.1 hbn, cell_keep hS.2.1 hbn, cell_keep hS.2.2.1 hbn, cell_keep hS.2.2.2.1 hbn, bel_to hS.2.2.2.2 hbn⟩)
  refine hK.out _ _ hS3 (fun hS2 => ?_)
  clear hK hbn hS hS2
  have hS := hS3
  clear hS3
  (try simp only [Act.put, List.setIfInBounds_toArray, List.set_cons_zero, List.set_cons_succ])
  (refine wpAnyH_val (i := 34) (some 89) ?_ rfl rfl (by kernel_rfl) (by kernel_rfl) (by kernel_rfl) (fun _ _ _ h => h) (by rfl) (by assumption) ?_ ?_; rotate_left; (intro w hSw; go_simp; (try with_reducible rfl)); (try simp only [Act.put, List.setIfInBounds_toArray, List.set_cons_zero, List.set_cons_succ])); (refine wpAnyH_val (i := 35) (some 90) ?_ rfl rfl (by kernel_rfl) (by kernel_rfl) (by kernel_rfl) (fun _ _ _ h => h) (by rfl) (by assumption) ?_ ?_; rotate_left; (intro w hSw; go_simp; (try with_reducible rfl)); (try simp only [Act.put, List.setIfInBounds_toArray, List.set_cons_zero, List.set_cons_succ])); (refine wpAnyH_val (i := 36) (some 91) ?_ rfl rfl (by kernel_rfl) (by kernel_rfl) (by kernel_rfl) (fun _ _ _ h => h) (by rfl) (by assumption) ?_ ?_; rotate_left; (intro w hSw; go_simp; (try with_reducible rfl)); (try simp only [Act.put, List.setIfInBounds_toArray, List.set_cons_zero, List.set_cons_succ])); (refine wpAnyH_val (i := 37) (some 92) ?_ rfl rfl (by kernel_rfl) (by kernel_rfl) (by kernel_rfl) (fun _ _ _ h => h) (by rfl) (by assumption) ?_ ?_; rotate_left; (intro w hSw; go_simp; (try with_reducible rfl)); (try simp only [Act.put, List.setIfInBounds_toArray, List.set_cons_zero, List.set_cons_succ])); (refine wpAnyH_val (i := 39) (some 94) ?_ rfl rfl (by kernel_rfl) (by kernel_rfl) (by kernel_rfl) (fun _ _ _ h => h) (by rfl) (by assumption) ?_ ?_; rotate_left; (intro w hSw; go_simp; (try with_reducible rfl)); (try simp only [Act.put, List.setIfInBounds_toArray, List.set_cons_zero, List.set_cons_succ])); (refine wpAnyH_val (i := 41) (some 96) ?_ rfl rfl (by kernel_rfl) (by kernel_rfl) (by kernel_rfl) (fun _ _ _ h => h) (by rfl) (by assumption) ?_ ?_; rotate_left; (intro w hSw; go_simp; (try with_reducible rfl)); (try simp only [Act.put, List.setIfInBounds_toArray, List.set_cons_zero, List.set_cons_succ])); (refine wpAnyH_val (i := 43) (some 98) ?_ rfl rfl (by kernel_rfl) (by kernel_rfl) (by kernel_rfl) (fun _ _ _ h => h) (by rfl) (by assumption) ?_ ?_; rotate_left; (intro w hSw; go_simp; (try with_reducible rfl)); (try simp only [Act.put, List.setIfInBounds_toArray, List.set_cons_zero, List.set_cons_succ])); (refine wpAnyH_val (i := 38) (some 93) ?_ rfl rfl (by kernel_rfl) (by kernel_rfl) (by kernel_rfl) (fun _ _ _ h => h) (by rfl) (by assumption) ?_ ?_; rotate_left; (intro w hSw; go_simp; (try with_reducible rfl)); (try simp only [Act.put, List.setIfInBounds_toArray, List.set_cons_zero, List.set_cons_succ])); (refine wpAnyH_val (i := 42) (some 97) ?_ rfl rfl (by kernel_rfl) (by kernel_rfl) (by kernel_rfl) (fun _ _ _ h => h) (by rfl) (by assumption) ?_ ?_; rotate_left; (intro w hSw; go_simp; (try with_reducible rfl)); (try simp only [Act.put, List.setIfInBounds_toArray, List.set_cons_zero, List.set_cons_succ]))
  (refine wpAnyH_ready (rs := [40]) (by kernel_rfl) (by simp) ?_; refine AllReadyH.cons rfl (fun K hK => ?_) AllReadyH.nil; go_simp)
  refine Calls.mono (Ans.eqb (c_isDep n l r _) H9.out) ?_
  rintro e wz ⟨rfl, hbn⟩
  have hS3 := (show _ ∧ _ ∧ _ ∧ _ ∧ Below w6.heap.size w6 _ from ⟨cell_keep hS.1 hbn, cell_keep hS.2.1 hbn, cell_keep hS.2.2.1 hbn, cell_keep hS.2.2.2.1 hbn, bel_to hS.2.2.2.2 hbn⟩)
  refine hK.out _ _ hS3 (fun hS2 => ?_)
  clear hK hbn hS hS2
  have hS := hS3
  clear hS3
  (try simp only [Act.put, List.setIfInBounds_toArray, List.set_cons_zero, List.set_cons_succ])
  (refine wpAnyH_ready (rs := [44]) (by kernel_rfl) (by simp) ?_; refine AllReadyH.cons rfl (fun K hK => ?_) AllReadyH.nil; go_simp)
  refine Calls.mono (Ans.eqb (c_specIsDep n l r _) H9.out) ?_
  rintro e wz ⟨rfl, hbn⟩
  have hS3 := (show _ ∧ _ ∧ _ ∧ _ ∧ Below w6.heap.size w6 _ from ⟨cell_keep hS.1 hbn, cell_keep hS.2.1 hbn, cell_keep hS.2.2.1 hbn, cell_keep hS.2.2.2.1 hbn, bel_to hS.2.2.2.2 hbn⟩)
  refine hK.out _ _ hS3 (fun hS2 => ?_)
  clear hK hbn hS hS2
  have hS := hS3
  clear hS3
  (try simp only [Act.put, List.setIfInBounds_toArray, List.set_cons_zero, List.set_cons_succ])
  (refine wpAnyH_val (i := 45) (some 100) ?_ rfl rfl (by kernel_rfl) (by kernel_rfl) (by kernel_rfl) (fun _ _ _ h => h) (by rfl) (by assumption) ?_ ?_; rotate_left; (intro w hSw; go_simp; (try with_reducible rfl)); (try simp only [Act.put, List.setIfInBounds_toArray, List.set_cons_zero, List.set_cons_succ])); (refine wpAnyH_val (i := 46) (some 101) ?_ rfl rfl (by kernel_rfl) (by kernel_rfl) (by kernel_rfl) (fun _ _ _ h => h) (by rfl) (by assumption) ?_ ?_; rotate_left; (intro w hSw; go_simp; (try with_reducible rfl)); (try simp only [Act.put, List.setIfInBounds_toArray, List.set_cons_zero, List.set_cons_succ]))
  refine wpAnyH_done (by kernel_rfl) ?_ _
  try dsimp only [NoPanic, Exit.then]
  have hbn := hS.2.2.2.2
  clear hS n0 n1 d0 d1 hd
  replace hB := hB.keep hbn
  replace hO := hO.keep hbn
  replace k12 := k12.keep hbn
  replace k13 := k13.keep hbn
  replace hb := bel_to hb hbn
  clear hbn
  cases ha : askF n R m l r
  · obtain rfl : z = -1 := by rw [← HZ.out]; unfold rrF; rw [ha]; rfl
    obtain rfl : h = false := by rw [← HH.out, ha]; rfl
    obtain rfl : v = false := by rw [← HV.out, ha]; rfl
    go_wp2
    go_ret
    exact ⟨rfl, hb⟩
  have ht : isTabF n R = true := by have := ha; unfold askF at this; simp only [Bool.and_eq_true] at this; exact this.1.1
  obtain ⟨hz0, hzi⟩ := rr_holds ht ha
  have hzl := rr_lt ht ha
  rw [HZ.out] at hz0 hzi hzl
  have HS : Hid (∀ s : Nat → Bool, holdsF (subT R s R.length) m l r = true → (cntN s R.length : Int) + z ≤ R.length) := fun s hs => by have := sub_law ht ha hs; rw [HZ.out] at this; exact this
  have hhv : h = decide (z ≤ 0) ∧ v = !h := by
    have e1 := HH.out; have e2 := HV.out; rw [ha] at e1 e2; simp only [Bool.true_and] at e1 e2; rw [← e2, e1]; refine ⟨?_, rfl⟩; rw [← e1]; exact Bool.eq_iff_iff.2 (by rw [decide_eq_true_iff]; exact hzi.symm)
  have HHV : Hid (h = decide (z ≤ 0) ∧ v = !h) := hhv
  clear hhv
  clear ha hzi hq1 hq2 hq3 HH HV H9 ht
  have hng : decide (z < 0) = false := decide_eq_false (by omega)
  obtain ⟨w8, hwq⟩ := bel_world hb
  subst hwq
  go_upto_region 12 with fail
  have n0 := k12.cell 0 (.int .i64 n) rfl
  have n1 := k12.cell 1 (.slice o R.length c) rfl
  have d0 := k13.cell 0 (.int .i64 l) rfl
  have d1 := k13.cell 1 (.int .i64 r) rfl
  go_cut [129] from 110 to 129 (fun v wx => v = .bool false ∧ Below w8.heap.size w8 wx)
  case first =>
    have hbw := Below.refl w8.heap.size w8
    by_cases hzz : z ≤ 0
    · obtain rfl : z = 0 := by omega
      obtain rfl : h = true := by rw [HHV.out.1]; rfl
      obtain rfl : v = false := by rw [HHV.out.2]; rfl
      by_cases hl0 : R.length = 0
      · obtain rfl := List.eq_nil_of_length_eq_zero hl0
        go_wp2_with fail
        go_meet
        exact ⟨by first | rfl | simp, hbw⟩
      · have hq9 : decide ((R.length : Int) ≤ 0) = false := decide_eq_false (by omega)
        go_wp2_with fail
        go_meet
        exact ⟨by first | rfl | simp, hbw⟩
    · obtain rfl : h = false := by rw [HHV.out.1]; exact decide_eq_false hzz
      obtain rfl : v = true := by rw [HHV.out.2]; rfl
      have hzr : z < R.length := by omega
      have hzd : decide (z ≤ 0) = false := decide_eq_false hzz
      have hzn : decide ((R.length : Int) ≤ z) = false := decide_eq_false (by omega)
      go_wp2_with fail
      all_goals
        go_meet
        exact ⟨by first | rfl | (simp; done) | (simp; omega), hbw⟩
  case rest =>
    obtain ⟨rfl, hbn⟩ := hcut
    clear n0 n1 d0 d1
    replace hB := hB.keep hbn
    replace hO := hO.keep hbn
    replace k12 := k12.keep hbn
    replace k13 := k13.keep hbn
    replace hb := bel_to hb hbn
    clear hbn
    obtain ⟨w9, hwq⟩ := bel_world hb
    subst hwq
    clear hzl
    go_wp2_with fail
    go_loopw [14] (fun v wr => ∃ k : Nat, v = .int .i64 k ∧ k ≤ 128 ∧ Below w9.heap.size w9 wr) (fun v _ => 128 - (intOf v).toNat)
    case atStart => exact ⟨0, rfl, Nat.zero_le _, Below.refl _ _⟩
    case round =>
      obtain ⟨k, rfl, hk, hbn⟩ := hrel
      have hbo := hbn
      replace hB := hB.keep hbn
      replace hO := hO.keep hbn
      replace k12 := k12.keep hbn
      replace k13 := k13.keep hbn
      replace hb := bel_to hb hbn
      clear hbn
      obtain ⟨w10, hwq⟩ := bel_world hb
      subst hwq
      have n0 := k12.cell 0 (.int .i64 n) rfl
      have n1 := k12.cell 1 (.slice o R.length c) rfl
      have d0 := k13.cell 0 (.int .i64 l) rfl
      have d1 := k13.cell 1 (.int .i64 r) rfl
      by_cases hR7 : R.length ≤ 7
      · have hpw := pow7 hR7
        have hp1 := hpw.1
        have hp2 := hpw.2
        clear hpw
        have h7d : decide ((R.length : Int) ≤ 7) = true := decide_eq_true (by omega)
        by_cases hlt : (k : Int) < 2 ^ R.length
        · have hld : decide ((k : Int) < 2 ^ R.length) = true := decide_eq_true hlt
          go_wp2_with fail
          obtain ⟨s, HSS⟩ : ∃ s : Nat → Bool, Hid (s = fun r => (bits BinOp.and .i64 ((k : Int) / 2 ^ r) 1 == 1)) := ⟨_, rfl⟩
          have hd := hO.read hOR HOr.out
          have kX := Blk.new w10 #[.int .i64 n, .slice none 0 0] 26
          have sX := SubAt.zero w10 (w10.alloc (.cells #[.int .i64 n, .slice none 0 0] 26)) (w10.heap.size + 1)
          have hbi := (Below.refl w10.heap.size w10).alloc (Nat.le_refl _) (.cells #[.int .i64 n, .slice none 0 0] 26)
          go_loopw [16] (fun v wr => ∃ (j : Nat) (o9 : Option Addr) (c9 : Nat) (ys : List Value), v = .int .i64 j ∧ j ≤ R.length ∧ Blk wr w10.heap.size #[.int .i64 n, .slice o9 (subT R s j).length c9] 26 ∧ SubAt w10 wr (w10.heap.size + 1) o9 c9 ys (subT R s j) ∧ Below w10.heap.size w10 wr) (fun v _ => R.length - (intOf v).toNat)
          case atStart => exact ⟨0, none, 0, [], rfl, Nat.zero_le _, kX, sX, hbi⟩
          case round =>
            clear kX sX hbi
            obtain ⟨j, o9, c9, ys, rfl, hj, kX, sX, hbi⟩ := hrel
            clear n0 n1 d0 d1
            have hd0 := hd
            have hbn := hbi
            replace hB := hB.keep hbn
            replace hO := hO.keep hbn
            replace k12 := k12.keep hbn
            replace k13 := k13.keep hbn
            replace hd := hd.keep hbn
            replace hbo := bel_to hbo hbn
            replace hb := bel_to hb hbn
            clear hbn
            obtain ⟨w11, hwq⟩ := bel_world hb
            subst hwq
            have n0 := k12.cell 0 (.int .i64 n) rfl
            have n1 := k12.cell 1 (.slice o R.length c) rfl
            have d0 := k13.cell 0 (.int .i64 l) rfl
            have d1 := k13.cell 1 (.int .i64 r) rfl
            have hTl := sub_le R s j
            obtain ⟨R', HT⟩ : ∃ R', Hid (subT R s j = R') := ⟨_, rfl⟩
            rw [HT.out] at kX sX hTl
            by_cases hjl : j < R.length
            · obtain ⟨b, off, e', hbs, hcell⟩ := hd0.at_ (by omega)
              subst e'
              obtain ⟨o1, c1, e1, r1⟩ := hcell j hjl
              have hc1 := cell_keep e1 hbi
              clear hcell hbs e1
              cases hs : s j
              · have hs1 : (bits BinOp.and .i64 ((k : Int) / 2 ^ j) 1 == 1) = false := by rw [← hs, HSS.out]
                have HT7 : Hid (subT R s (j + 1) = R') := by show _ = _; rw [sub_succ, hs, HT.out]; simp
                go_wp2
                go_roundw
                case rel => exact ⟨j + 1, o9, c9, ys, by go_num, by omega, by rw [HT7.out]; exact kX, by rw [HT7.out]; exact sX, hbi⟩
                case measure => simp [intOf]; omega
              · have hs1 : (bits BinOp.and .i64 ((k : Int) / 2 ^ j) 1 == 1) = true := by rw [← hs, HSS.out]
                have HT7 : Hid (subT R s (j + 1) = R' ++ [row R j]) := by show _ = _; rw [sub_succ, hs, HT.out]; simp
                have n1d := k12.drew.cell 1 (.slice (some ⟨b, off, none⟩) R.length c) rfl
                have n1a := fun ob => (k12.alloc ob).cell 1 (.slice (some ⟨b, off, none⟩) R.length c) rfl
                have n1b := fun ob => (k12.alloc ob).drew.cell 1 (.slice (some ⟨b, off, none⟩) R.length c) rfl
                have m1 := kX.cell 1 (.slice o9 R'.length c9) rfl
                have m1d := kX.drew.cell 1 (.slice o9 R'.length c9) rfl
                have m1a := fun ob => (kX.alloc ob).cell 1 (.slice o9 R'.length c9) rfl
                have m1b := fun ob => (kX.alloc ob).drew.cell 1 (.slice o9 R'.length c9) rfl
                have hc1d := cell_keep hc1 (Below.refl _ _).drew
                have hL5 : Hid ((row R j).length ≤ Room) := HOr.out j hjl
                have hkx := kX.lt
                go_wp2_with fail
                go_region_law (first
        | (refine step_append_held _ (by rfl) _ _ 24 (by rfl) (w10.heap.size + 1) 37 j0 (.slice none 0 0) 1 24 Try.underlying24 hj0 hy0 hy1 hy2 rfl (by decide) (.slice o9 R'.length c9) _ _ (by rfl) (World.ownsRow.alloc sX.own _) _ 1 1 [.slice o1 (row R j).length c1] (by rfl) rfl (World.news_of_block (cs := #[.slice o1 (row R j).length c1]) (t := 37) (fr := (0, 0)) (heap_new_at (by simp))) (by intro u hu; simp at hu; subst hu; rfl) (by unfold maxLen; omega) (by omega) (by simp; omega) ?_; intro v7 w12 hown _ hgrow hfr; (try replace hgrow := drew_grown hgrow); obtain ⟨o7, c7, rfl, t4, u4, k7, s7, hb7⟩ := sX.app kX hbi r1 hown hgrow; clear hown hgrow hfr)
        | fail)
                all_goals
                  clear m1 m1d m1a m1b n1d n1a n1b hc1d t4 u4 hc1 hs1
                  generalize w12.setCell ⟨w10.heap.size, 1, none⟩ (.slice o7 (R'.length + 1) c7) = w13 at *
                  go_wp2_with fail
                  go_roundw
                  case rel => exact ⟨j + 1, o7, c7, ys ++ [.slice o1 (row R j).length c1], by go_num, by omega, by rw [HT7.out]; exact k7, by rw [HT7.out]; exact s7, hb7⟩
                  case measure => simp [intOf]; omega
            · have hjj : j = R.length := by omega
              have HT2 : Hid (subT R s R.length = R') := by show _ = _; rw [← hjj]; exact HT.out
              have m0 := kX.cell 0 (.int .i64 n) rfl
              have m1 := kX.cell 1 (.slice o9 R'.length c9) rfl
              have hcn : R'.length = cntN s R.length := by rw [← HT2.out]; exact sub_len R s R.length
              have hdX := sX.read hbi (by unfold Room; omega)
              by_cases hlz : (R.length : Int) - (R'.length : Int) < z
              · have hdz : decide ((R.length : Int) - (R'.length : Int) < z) = true := decide_eq_true hlz
                have hF : (askF n R' m l r && holdsF R' m l r) = false := by
                  cases hh : holdsF R' m l r
                  · simp
                  · exfalso; have := HS.out s (by rw [HT2.out]; exact hh); omega
                clear hcn hjj
                go_wp2_with (first | (go_at_call 10; refine Calls.mono (Ans.eqb (c_specHoldsDep n o9 c9 R' m l r _ hdX) hF) ?_; rintro e wz ⟨rfl, hbn⟩) | fail)
                skip
                go_roundw
                case rel => exact ⟨k + 1, by go_num, by omega, bel_to hbo hbn⟩
                case measure => simp [intOf]; omega
              · have hdz : decide ((R.length : Int) - (R'.length : Int) < z) = false := decide_eq_false hlz
                clear hcn hjj
                go_wp2_with fail
                go_roundw
                case rel => exact ⟨k + 1, by go_num, by omega, hbo⟩
                case measure => simp [intOf]; omega
        · have hld : decide ((k : Int) < 2 ^ R.length) = false := decide_eq_false hlt
          go_wp2_with fail
          clear hbo hO k12 k13 n0 n1 d0 d1
          obtain ⟨m9, hm9⟩ := hmx
          refine (c_DrawParseDep oc mc capc hmc _ hB).mono ?_
          rintro e w20 ⟨n5, st, rfl, hst, hbn⟩
          clear hB
          replace hb := bel_to hb hbn
          clear hbn
          obtain ⟨x5, y5, t5, h9⟩ : ∃ x y t, parseF n5 st = (x, y, t) := ⟨_, _, _, rfl⟩
          have HP : Hid (parseF n5 st = (x5, y5, t5)) := h9
          clear h9
          go_wp2_with fail
          refine Calls.mono (c_ParseDep n5 st (by omega) m9 _ (cell_keep hm9 hb) x5 y5 t5 HP.out) ?_
          rintro e w21 ⟨rfl, hbn⟩
          replace hb := bel_to hb hbn
          clear hbn
          have kD := Blk.new w21 #[.int .i64 x5, .int .i64 y5] 28
          have hbn := (Below.refl w21.heap.size w21).alloc (Nat.le_refl _) (.cells #[.int .i64 x5, .int .i64 y5] 28)
          replace hb := bel_to hb hbn
          clear hbn
          go_wp2_with fail
          refine Calls.mono (c_specParseDep n5 st (by omega) _ x5 y5 t5 HP.out) ?_
          rintro e w22 ⟨rfl, hbn⟩
          replace kD := kD.keep hbn
          replace hb := bel_to hb hbn
          clear hbn
          have kE := Blk.new w22 #[.int .i64 x5, .int .i64 y5] 28
          have hbn := (Below.refl w22.heap.size w22).alloc (Nat.le_refl _) (.cells #[.int .i64 x5, .int .i64 y5] 28)
          replace kD := kD.keep hbn
          replace hb := bel_to hb hbn
          clear hbn
          have g0 := kD.cell 0 (.int .i64 x5) rfl
          have g1 := kD.cell 1 (.int .i64 y5) rfl
          have e0 := kE.cell 0 (.int .i64 x5) rfl
          have e1 := kE.cell 1 (.int .i64 y5) rfl
          cases t5
          · go_wp2
            go_ret
            exact ⟨rfl, hb⟩
          · have hF : ((bs (fmtD x5 y5)).toList == (bs st).toList) = true := by rw [parse_fmt HP.out]; simp
            go_wp2_with (first | (go_at_call 12; refine Calls.mono (c_FormatDep _ _ _) ?_; rintro e w1 ⟨rfl, hbn⟩; replace hb := bel_to (w := w) (by first | exact hb | exact hb.alloc hb.size _ | exact (hb.alloc hb.size _).alloc (Nat.le_trans hb.size (by simp)) _ | exact hb.setCell (by simp [hb.size]) _) hbn; clear hbn))
            go_ret
            exact ⟨rfl, hb⟩
      · have h7d : decide ((R.length : Int) ≤ 7) = false := decide_eq_false (by omega)
        have hpw := pow13 (show R.length ≤ 13 by omega)
        go_wp2_with fail
        all_goals
          clear hbo hO k12 k13 n0 n1 d0 d1
          obtain ⟨m9, hm9⟩ := hmx
          refine (c_DrawParseDep oc mc capc hmc _ hB).mono ?_
          rintro e w20 ⟨n5, st, rfl, hst, hbn⟩
          clear hB
          replace hb := bel_to hb hbn
          clear hbn
          obtain ⟨x5, y5, t5, h9⟩ : ∃ x y t, parseF n5 st = (x, y, t) := ⟨_, _, _, rfl⟩
          have HP : Hid (parseF n5 st = (x5, y5, t5)) := h9
          clear h9
          go_wp2_with fail
          refine Calls.mono (c_ParseDep n5 st (by omega) m9 _ (cell_keep hm9 hb) x5 y5 t5 HP.out) ?_
          rintro e w21 ⟨rfl, hbn⟩
          replace hb := bel_to hb hbn
          clear hbn
          have kD := Blk.new w21 #[.int .i64 x5, .int .i64 y5] 28
          have hbn := (Below.refl w21.heap.size w21).alloc (Nat.le_refl _) (.cells #[.int .i64 x5, .int .i64 y5] 28)
          replace hb := bel_to hb hbn
          clear hbn
          go_wp2_with fail
          refine Calls.mono (c_specParseDep n5 st (by omega) _ x5 y5 t5 HP.out) ?_
          rintro e w22 ⟨rfl, hbn⟩
          replace kD := kD.keep hbn
          replace hb := bel_to hb hbn
          clear hbn
          have kE := Blk.new w22 #[.int .i64 x5, .int .i64 y5] 28
          have hbn := (Below.refl w22.heap.size w22).alloc (Nat.le_refl _) (.cells #[.int .i64 x5, .int .i64 y5] 28)
          replace kD := kD.keep hbn
          replace hb := bel_to hb hbn
          clear hbn
          have g0 := kD.cell 0 (.int .i64 x5) rfl
          have g1 := kD.cell 1 (.int .i64 y5) rfl
          have e0 := kE.cell 0 (.int .i64 x5) rfl
          have e1 := kE.cell 1 (.int .i64 y5) rfl
          cases t5
          · go_wp2
            go_ret
            exact ⟨rfl, hb⟩
          · have hF : ((bs (fmtD x5 y5)).toList == (bs st).toList) = true := by rw [parse_fmt HP.out]; simp
            go_wp2_with (first | (go_at_call 12; refine Calls.mono (c_FormatDep _ _ _) ?_; rintro e w1 ⟨rfl, hbn⟩; replace hb := bel_to (w := w) (by first | exact hb | exact hb.alloc hb.size _ | exact (hb.alloc hb.size _).alloc (Nat.le_trans hb.size (by simp)) _ | exact hb.setCell (by simp [hb.size]) _) hbn; clear hbn))
            go_ret
            exact ⟨rfl, hb⟩
end Go.Proofs.Ytcenndlbhgfdfaa
