/- AgreeSets, of the program and of the reference: the walks. -/
import Derived.Test.YtkanbnbofoabeaaAgree
namespace Go.Proofs.Ytkanbnbofoabeaa
open Go.RowKit
set_option linter.unusedVariables false
set_option maxRecDepth 100000

set_option maxHeartbeats 1600000 in
theorem c_AgreeSets (n : Int) (oa) (cap : Nat) (R : List (List Int)) (m : Int) (w : World) (hR : RowsAt w oa R) (hcap : R.length ≤ cap) :
    Calls Try.prog 147 #[.agg #[.int .i64 n, .slice oa R.length cap], .int .i64 m] w fun e w' => ∃ v, e = .returned v ∧ OwnI w' w.heap.size v (agreeSetsF n R m) ∧ Below w.heap.size w w' := by
  obtain ⟨i0, hi, hz0, hz1, hz2⟩ := info_parts info_int
  have hb := bel2 w (.cells #[.int .i64 n, .slice oa R.length cap] 28) (.cells #[] 3)
  have a0 := two_a w #[.int .i64 n, .slice oa R.length cap] 28 #[] 3 0 _ rfl
  have a1 := two_a w #[.int .i64 n, .slice oa R.length cap] 28 #[] 3 1 _ rfl
  have hI : OwnI ((w.alloc (.cells #[.int .i64 n, .slice oa R.length cap] 28)).alloc (.cells #[] 3)) (w.heap.size + 1) (.slice (some ⟨w.heap.size + 1, 0, none⟩) 0 0) [] := by
    have h := (OwnI.empty (w.alloc (.cells #[.int .i64 n, .slice oa R.length cap] 28)) _ (Nat.le_refl _))
    simpa using h
  cases ht : isTabF n R
  · have HM : Hid (agreeSetsF n R m = []) := by show agreeSetsF n R m = []; unfold agreeSetsF; rw [ht]; rfl
    go_enter Try.func147, Try.ntmps147
    go_wp2_with (first | (go_at_call 79; refine Calls.mono (Ans.eqb (c_IsTable _ _ _ _ _ (hR.keep hb)) ht) ?_; rintro e w1 ⟨rfl, hbn⟩; replace a0 := cell_keep a0 hbn; replace a1 := cell_keep a1 hbn; replace hI := hI.keep hbn; replace hb := bel_to (w := w) (by first | exact hb | exact hb.alloc hb.size _ | exact (hb.alloc hb.size _).alloc (Nat.le_trans hb.size (by simp)) _ | exact hb.setCell (by simp [hb.size]) _) hbn; clear hbn))
    go_ret
    exact ⟨_, rfl, by rw [HM.out]; exact hI.based (Nat.le_succ _), hb⟩
  cases hm : modeF m
  · have HM : Hid (agreeSetsF n R m = []) := by show agreeSetsF n R m = []; unfold agreeSetsF; rw [ht, hm]; rfl
    go_enter Try.func147, Try.ntmps147
    go_wp2_with (first | (go_at_call 79; refine Calls.mono (Ans.eqb (c_IsTable _ _ _ _ _ (hR.keep hb)) ht) ?_; rintro e w1 ⟨rfl, hbn⟩; replace a0 := cell_keep a0 hbn; replace a1 := cell_keep a1 hbn; replace hI := hI.keep hbn; replace hb := bel_to (w := w) (by first | exact hb | exact hb.alloc hb.size _ | exact (hb.alloc hb.size _).alloc (Nat.le_trans hb.size (by simp)) _ | exact hb.setCell (by simp [hb.size]) _) hbn; clear hbn) | (go_at_call 80; refine Calls.mono (Ans.eqb (c_isMode _ _) hm) ?_; rintro e w1 ⟨rfl, hbn⟩; replace a0 := cell_keep a0 hbn; replace a1 := cell_keep a1 hbn; replace hI := hI.keep hbn; replace hb := bel_to (w := w) (by first | exact hb | exact hb.alloc hb.size _ | exact (hb.alloc hb.size _).alloc (Nat.le_trans hb.size (by simp)) _ | exact hb.setCell (by simp [hb.size]) _) hbn; clear hbn))
    go_ret
    exact ⟨_, rfl, by rw [HM.out]; exact hI.based (Nat.le_succ _), hb⟩
  have HM : Hid (agreeSetsF n R m = flt (agPB R m R.length 0) 32) := by show agreeSetsF n R m = _; unfold agreeSetsF; rw [ht, hm]; rfl
  obtain ⟨hn1, hn5, hr40, hlen⟩ := isTab_of ht
  have HL : Hid (∀ k, k < R.length → ((row R k).length : Int) = n) := hlen
  clear hlen
  go_enter Try.func147, Try.ntmps147
  go_wp2_with (first | (go_at_call 79; refine Calls.mono (Ans.eqb (c_IsTable _ _ _ _ _ (hR.keep hb)) ht) ?_; rintro e w1 ⟨rfl, hbn⟩; replace a0 := cell_keep a0 hbn; replace a1 := cell_keep a1 hbn; replace hI := hI.keep hbn; replace hb := bel_to (w := w) (by first | exact hb | exact hb.alloc hb.size _ | exact (hb.alloc hb.size _).alloc (Nat.le_trans hb.size (by simp)) _ | exact hb.setCell (by simp [hb.size]) _) hbn; clear hbn) | (go_at_call 80; refine Calls.mono (Ans.eqb (c_isMode _ _) hm) ?_; rintro e w1 ⟨rfl, hbn⟩; replace a0 := cell_keep a0 hbn; replace a1 := cell_keep a1 hbn; replace hI := hI.keep hbn; replace hb := bel_to (w := w) (by first | exact hb | exact hb.alloc hb.size _ | exact (hb.alloc hb.size _).alloc (Nat.le_trans hb.size (by simp)) _ | exact hb.setCell (by simp [hb.size]) _) hbn; clear hbn))
  clear ht hm
  go_loopw [5, 23] (fun v k wr => ∃ (i : Nat) (L : List Int), k = .int .i64 i ∧ i ≤ R.length ∧ Hid (AgL R m i 0 L) ∧ OwnI wr (w.heap.size + 1) v L ∧ wr.cell? ⟨w.heap.size, 1, none⟩ = some (.slice oa R.length cap) ∧ Below w.heap.size w wr) (fun _ k _ => R.length - (intOf k).toNat)
  case atStart => exact ⟨0, [], rfl, Nat.zero_le _, AgL.none R m, hI, a1, hb⟩
  case round =>
    clear a0 a1 hb hI
    obtain ⟨i, L, rfl, hi', HAg, hI, a1, hb⟩ := hrel
    by_cases hlt : i < R.length
    · obtain ⟨b, off, rfl, hbs, hca⟩ := hR.at_ (by omega)
      obtain ⟨o1, c1, e1, r1⟩ := hca i hlt
      have hc1 := cell_keep e1 hb
      have HC : Hid (∀ k, k < R.length → ∃ o c, w.cell? ⟨b, off + k, none⟩ = some (.slice o (row R k).length c) ∧ IntsAt w o (row R k)) := hca
      have hic : i ≤ cap := by omega
      clear hca e1
      go_wp2
      go_loopw [5, 33] (fun v k wr => ∃ (j : Nat) (L : List Int), k = .int .i64 j ∧ j ≤ i ∧ Hid (AgL R m i j L) ∧ OwnI wr (w.heap.size + 1) v L ∧ wr.cell? ⟨w.heap.size, 1, none⟩ = some (.slice (some ⟨b, off, none⟩) R.length cap) ∧ Below w.heap.size w wr) (fun _ k _ => i - (intOf k).toNat)
      case atStart => exact ⟨0, L, rfl, Nat.zero_le _, HAg, hI, a1, hb⟩
      case round =>
        clear a1 hb hI hc1 HAg
        obtain ⟨j, L, rfl, hj, HAg, hI, a1, hb⟩ := hrel
        by_cases hlj : j < i
        · obtain ⟨o2, c2, e2, r2⟩ := HC.out j (by omega)
          have hc2 := cell_keep e2 hb
          have hA5 : (row R i).length ≤ 5 := by have := HL.out i hlt; omega
          have hAB : Hid ((row R j).length = (row R i).length) := by have h1 := HL.out i hlt; have h2 := HL.out j (by omega); show (row R j).length = (row R i).length; omega
          have HX : Hid (agreeF m (row R i) (row R j) = agreeF m (row R j) (row R i)) := agree_comm hAB.out.symm
          have HS : Hid (St (agreeF m (row R i) (row R j))) := agreeF_st hA5
          have hll : L.length ≤ 2000 := by have := HAg.out.2.2; omega
          clear e2
          go_wp2_with fail
          refine Calls.mono (c_agree m _ _ _ _ _ _ _ (r1.keep hb) (r2.keep hb) hA5 hAB.out) ?_
          rintro e w1 ⟨rfl, hbn⟩
          replace a1 := cell_keep a1 hbn
          replace hI := hI.keep hbn
          replace hb := bel_to hb hbn
          clear hbn hc2 hA5
          have HY : Hid (∀ x, x = agreeF m (row R i) (row R j) → AgL R m i (j + 1) (L ++ [x])) := fun x hx => HAg.out.snoc hlj (hx.trans HX.out) (hx ▸ HS.out)
          generalize agreeF m (row R i) (row R j) = x at *
          go_wp2_with (first | (at_builtin; refine wpList_append_fresh rfl _ _ 69 rfl (w.heap.size + 1) 3 i0 (.int .i64 0) 1 8 Try.underlying69 hi hz0 hz1 hz2 rfl (by decide) _ _ _ rfl (World.ownsRow.alloc hI _) _ 1 1 [.int .i64 (x)] rfl rfl (by intro j u hj; match j, hj with | 0, hj => simp at hj; subst hj; simp [Addr.add]) (by intro u hu; simp at hu; subst hu; rfl) (by unfold maxLen; omega) (by omega) (by have := World.block_lt_of_cell? _ _ a1; simp at this; simp; omega) ?_; intro v' w1 hown hgrow hfr; replace hb := (hb.alloc hb.size _).grown hgrow (by have := hb.size; simp; omega) (fun g hg => Nat.le_trans (Nat.le_succ _) (World.ownsRow.lt hI g hg).1); replace a1 := cell_gr (cell_al a1 _) (World.ownsRow.alloc hI _) (by omega) hgrow; replace hI := OwnI.snoc hown; clear hown hgrow hfr) | fail)
          go_roundw
          case rel => exact ⟨j + 1, _, by go_num, by omega, HY.out x rfl, hI, a1, hb⟩
          case measure => simp [intOf]; omega
        · have hjj : j = i := by omega
          have HN : Hid (AgL R m (i + 1) 0 L) := by have h := HAg.out; rw [hjj] at h; exact h.next (by omega)
          clear hjj
          go_wp2
          go_roundw
          case rel => exact ⟨i + 1, L, by go_num, by omega, HN.out, hI, a1, hb⟩
          case measure => simp [intOf]; omega
    · have hii : i = R.length := by omega
      have HD : Hid (distinctF L = flt (agPB R m R.length 0) 32) := by have h := HAg.out; rw [hii] at h; exact h.distinct
      have hfr : L.length ≤ Room := by have := HAg.out.2.2; unfold Room; omega
      clear hii HAg
      obtain ⟨oF, cF, rfl, hcF, hnF⟩ := hI.cap
      go_wp2_with fail
      refine (c_distinct _ _ _ _ (hI.ints rfl hfr) hnF).mono ?_
      rintro e w1 ⟨v1, rfl, hD, hbn⟩
      replace hD := hD.based hb.size
      replace hb := bel_to hb hbn
      clear hbn
      go_wp2
      go_ret
      exact ⟨_, rfl, by rw [HM.out, ← HD.out]; exact hD, hb⟩
set_option maxHeartbeats 1600000 in
theorem c_specAgreeSets (n : Int) (oa) (cap : Nat) (R : List (List Int)) (m : Int) (w : World) (hR : RowsAt w oa R) :
    Calls Try.prog 144 #[.agg #[.int .i64 n, .slice oa R.length cap], .int .i64 m] w fun e w' => ∃ v, e = .returned v ∧ OwnI w' w.heap.size v (agreeSetsF n R m) ∧ Below w.heap.size w w' := by
  obtain ⟨i0, hi, hz0, hz1, hz2⟩ := info_parts info_int
  have hb := bel2 w (.cells #[.int .i64 n, .slice oa R.length cap] 28) (.cells #[] 3)
  have a0 := two_a w #[.int .i64 n, .slice oa R.length cap] 28 #[] 3 0 _ rfl
  have a1 := two_a w #[.int .i64 n, .slice oa R.length cap] 28 #[] 3 1 _ rfl
  have hI : OwnI ((w.alloc (.cells #[.int .i64 n, .slice oa R.length cap] 28)).alloc (.cells #[] 3)) (w.heap.size + 1) (.slice (some ⟨w.heap.size + 1, 0, none⟩) 0 0) [] := by
    have h := (OwnI.empty (w.alloc (.cells #[.int .i64 n, .slice oa R.length cap] 28)) _ (Nat.le_refl _))
    simpa using h
  cases hf : (isTabF n R && modeF m)
  · have HM : Hid (agreeSetsF n R m = []) := by show agreeSetsF n R m = []; unfold agreeSetsF; rw [hf]; rfl
    go_enter Try.func144, Try.ntmps144
    go_wp2
    go_loopw [5, 6] (fun v k wr => k = .int .i64 0 ∧ OwnI wr (w.heap.size + 1) v [] ∧ wr.cell? ⟨w.heap.size, 0, none⟩ = some (.int .i64 n) ∧ wr.cell? ⟨w.heap.size, 1, none⟩ = some (.slice oa R.length cap) ∧ Below w.heap.size w wr) (fun _ _ _ => 0)
    case atStart => exact ⟨rfl, hI, a0, a1, hb⟩
    case round =>
      clear a0 a1 hb hI
      obtain ⟨rfl, hI, a0, a1, hb⟩ := hrel
      by_cases h0 : 0 < R.length
      · go_wp2_with (first | (go_at_call 75; refine Calls.mono (Ans.eqb (c_l4Fine _ _ _ _ _ _ (hR.keep hb)) hf) ?_; rintro e w1 ⟨rfl, hbn⟩; replace a0 := cell_keep a0 hbn; replace a1 := cell_keep a1 hbn; replace hI := hI.keep hbn; replace hb := bel_to (w := w) (by first | exact hb | exact hb.alloc hb.size _ | exact (hb.alloc hb.size _).alloc (Nat.le_trans hb.size (by simp)) _ | exact hb.setCell (by simp [hb.size]) _) hbn; clear hbn))
        go_ret
        exact ⟨_, rfl, by rw [HM.out]; exact hI.based (Nat.le_succ _), hb⟩
      · go_wp2
        go_ret
        exact ⟨_, rfl, by rw [HM.out]; exact hI.based (Nat.le_succ _), hb⟩
  have HM : Hid (agreeSetsF n R m = flt (agQB R m R.length 0) 32) := by show agreeSetsF n R m = _; unfold agreeSetsF; rw [hf, agQB_all]; rfl
  have ht : isTabF n R = true := by have := hf; simp only [Bool.and_eq_true] at this; exact this.1
  obtain ⟨hn1, hn5, hr40, hlen⟩ := isTab_of ht
  have HT : Hid (isTabF n R = true) := ht
  have HL : Hid (∀ k, k < R.length → ((row R k).length : Int) = n) := hlen
  clear hlen ht
  go_enter Try.func144, Try.ntmps144
  go_wp2
  go_loopw [5, 6] (fun v k wr => ∃ i : Nat, k = .int .i64 i ∧ i ≤ R.length ∧ OwnI wr (w.heap.size + 1) v (flt (agQB R m i 0) 32) ∧ wr.cell? ⟨w.heap.size, 0, none⟩ = some (.int .i64 n) ∧ wr.cell? ⟨w.heap.size, 1, none⟩ = some (.slice oa R.length cap) ∧ Below w.heap.size w wr) (fun _ k _ => R.length - (intOf k).toNat)
  case atStart => exact ⟨0, rfl, Nat.zero_le _, by rw [agQB_none]; exact hI, a0, a1, hb⟩
  case round =>
    clear a0 a1 hb hI
    obtain ⟨i, rfl, hi', hI, a0, a1, hb⟩ := hrel
    by_cases hlt : i < R.length
    · go_wp2_with (first | (go_at_call 75; refine Calls.mono (Ans.eqb (c_l4Fine _ _ _ _ _ _ (hR.keep hb)) hf) ?_; rintro e w1 ⟨rfl, hbn⟩; replace a0 := cell_keep a0 hbn; replace a1 := cell_keep a1 hbn; replace hI := hI.keep hbn; replace hb := bel_to (w := w) (by first | exact hb | exact hb.alloc hb.size _ | exact (hb.alloc hb.size _).alloc (Nat.le_trans hb.size (by simp)) _ | exact hb.setCell (by simp [hb.size]) _) hbn; clear hbn))
      go_loopw [5, 7] (fun v k wr => ∃ j : Nat, k = .int .i64 j ∧ i < j ∧ j ≤ R.length ∧ OwnI wr (w.heap.size + 1) v (flt (agQB R m i j) 32) ∧ wr.cell? ⟨w.heap.size, 0, none⟩ = some (.int .i64 n) ∧ wr.cell? ⟨w.heap.size, 1, none⟩ = some (.slice oa R.length cap) ∧ Below w.heap.size w wr) (fun _ k _ => R.length - (intOf k).toNat)
      case atStart => exact ⟨i + 1, by go_num, by omega, by omega, by rw [agQB_first]; exact hI, a0, a1, hb⟩
      case round =>
        clear a0 a1 hb hI
        obtain ⟨j, rfl, hij, hj, hI, a0, a1, hb⟩ := hrel
        by_cases hlj : j < R.length
        · have HS : Hid (St (agreeF m (row R i) (row R j))) := agreeF_st (by have := HL.out i hlt; omega)
          have HX : Hid (putF (flt (agQB R m i j) 32) (agreeF m (row R i) (row R j)) = flt (agQB R m i (j + 1)) 32) := (putF_flt _ HS.out).trans (by rw [agQB_step R m i j hij])
          have hfl := flt_le (agQB R m i j) 32
          go_wp2_with fail
          refine Calls.mono (c_l4Agree n _ _ _ m i j _ (hR.keep hb) HT.out hlt hlj) ?_
          rintro e w1 ⟨rfl, hbn⟩
          replace a0 := cell_keep a0 hbn
          replace a1 := cell_keep a1 hbn
          replace hI := hI.keep hbn
          replace hb := bel_to hb hbn
          clear hbn
          generalize agreeF m (row R i) (row R j) = x at *
          generalize flt (agQB R m i j) 32 = F at *
          obtain ⟨oF, cF, rfl⟩ := hI.shape
          go_wp2_with fail
          refine (c_l4Put _ _ _ _ _ _ (by omega) hI (by have := World.block_lt_of_cell? _ _ a1; simp at this; omega)).mono ?_
          rintro e w2 ⟨v2, rfl, hI2, hbn⟩
          replace a0 := cell_keep a0 hbn
          replace a1 := cell_keep a1 hbn
          replace hb := bel_to hb hbn
          clear hbn hI
          go_wp2
          go_roundw
          case rel => exact ⟨j + 1, by go_num, by omega, by omega, by rw [← HX.out]; exact hI2, a0, a1, hb⟩
          case measure => simp [intOf]; omega
        · have hjj : j = R.length := by omega
          have HX : Hid (flt (agQB R m i j) 32 = flt (agQB R m (i + 1) 0) 32) := by
            show flt (agQB R m i j) 32 = flt (agQB R m (i + 1) 0) 32
            rw [hjj, agQB_next R m i hlt, agQB_first]
          clear hjj
          go_wp2
          go_roundw
          case rel => exact ⟨i + 1, by go_num, by omega, by rw [← HX.out]; exact hI, a0, a1, hb⟩
          case measure => simp [intOf]; omega
    · have hii : i = R.length := by omega
      have HI2 : Hid (flt (agQB R m i 0) 32 = flt (agQB R m R.length 0) 32) := by show flt (agQB R m i 0) 32 = flt (agQB R m R.length 0) 32; rw [hii]
      clear hii
      go_wp2
      go_ret
      exact ⟨_, rfl, by rw [HM.out, ← HI2.out]; exact hI.based (Nat.le_succ _), hb⟩
end Go.Proofs.Ytkanbnbofoabeaa
