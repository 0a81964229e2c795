/- MinimalKeys, of the program and of the reference. -/
import Derived.Test.YtkanbnbofoabeaaBorder
import Derived.Test.YtkanbnbofoabeaaUniq
import Derived.Test.YtkanbnbofoabeaaMin4
namespace Go.Proofs.Ytkanbnbofoabeaa
open Go.RowKit
set_option linter.unusedVariables false
set_option maxRecDepth 100000

def mkeysF (n : Int) (R : List (List Int)) (m : Int) : List Int := if isTabF n R && modeF m then minF (flt (uniqF n R m) (2 ^ n.toNat)) else []
theorem mkeys_len (n : Int) (R : List (List Int)) (m : Int) : (mkeysF n R m).length ≤ Room := by
  unfold mkeysF
  split
  · have := minF_len (flt (uniqF n R m) (2 ^ n.toNat)); unfold Room; omega
  · simp
theorem minF_same {L M : List Int} (h : ∀ x, x ∈ L ↔ x ∈ M) (hl : L.length ≤ 100) (hm : M.length ≤ 100) : minF L = minF M := by
  unfold minF
  have e1 : setsF L = setsF M := all_same h
  have e2 : (fun x => inB' L x && minB L x) = fun x => inB' M x && minB M x := by
    funext x
    unfold inB' minB
    rw [all_same h]
    congr 1
    rw [decide_eq_decide]
    exact h x
  rw [e1, e2]
  simp [hl, hm]

set_option maxHeartbeats 1600000 in
theorem c_MinimalKeys (n : Int) (oa) (cap : Nat) (R : List (List Int)) (m : Int) (w : World) (hR : RowsAt w oa R) :
    Calls Try.prog 56 #[.agg #[.int .i64 n, .slice oa R.length cap], .int .i64 m] w fun e w' => ∃ v, e = .returned v ∧ OwnI w' w.heap.size v (mkeysF n R m) ∧ Below w.heap.size w w' := by
  obtain ⟨i0, hi, hz0, hz1, hz2⟩ := info_parts info_int
  have hb := bel2 w (.cells #[.int .i64 n, .slice oa R.length cap] 28) (.cells #[] 3)
  have a0 := two_a w #[.int .i64 n, .slice oa R.length cap] 28 #[] 3 0 _ rfl
  have a1 := two_a w #[.int .i64 n, .slice oa R.length cap] 28 #[] 3 1 _ rfl
  have hI : OwnI ((w.alloc (.cells #[.int .i64 n, .slice oa R.length cap] 28)).alloc (.cells #[] 3)) (w.heap.size + 1) (.slice (some ⟨w.heap.size + 1, 0, none⟩) 0 0) [] := by
    have h := (OwnI.empty (w.alloc (.cells #[.int .i64 n, .slice oa R.length cap] 28)) _ (Nat.le_refl _))
    simpa using h
  cases ht : isTabF n R
  · have HM : Hid (mkeysF n R m = []) := by show mkeysF n R m = []; unfold mkeysF; rw [ht]; rfl
    go_enter Try.func56, Try.ntmps56
    go_wp2_with (first | (go_at_call 79; refine Calls.mono (Ans.eqb (c_IsTable _ _ _ _ _ (hR.keep hb)) ht) ?_; rintro e w1 ⟨rfl, hbn⟩; replace a0 := cell_keep a0 hbn; replace a1 := cell_keep a1 hbn; replace hI := hI.keep hbn; replace hb := bel_to (w := w) (by first | exact hb | exact hb.alloc hb.size _ | exact (hb.alloc hb.size _).alloc (Nat.le_trans hb.size (by simp)) _ | exact hb.setCell (by simp [hb.size]) _) hbn; clear hbn))
    go_ret
    exact ⟨_, rfl, by rw [HM.out]; exact hI.based (Nat.le_succ _), hb⟩
  cases hm : modeF m
  · have HM : Hid (mkeysF n R m = []) := by show mkeysF n R m = []; unfold mkeysF; rw [ht, hm]; rfl
    go_enter Try.func56, Try.ntmps56
    go_wp2_with (first | (go_at_call 79; refine Calls.mono (Ans.eqb (c_IsTable _ _ _ _ _ (hR.keep hb)) ht) ?_; rintro e w1 ⟨rfl, hbn⟩; replace a0 := cell_keep a0 hbn; replace a1 := cell_keep a1 hbn; replace hI := hI.keep hbn; replace hb := bel_to (w := w) (by first | exact hb | exact hb.alloc hb.size _ | exact (hb.alloc hb.size _).alloc (Nat.le_trans hb.size (by simp)) _ | exact hb.setCell (by simp [hb.size]) _) hbn; clear hbn) | (go_at_call 80; refine Calls.mono (Ans.eqb (c_isMode _ _) hm) ?_; rintro e w1 ⟨rfl, hbn⟩; replace a0 := cell_keep a0 hbn; replace a1 := cell_keep a1 hbn; replace hI := hI.keep hbn; replace hb := bel_to (w := w) (by first | exact hb | exact hb.alloc hb.size _ | exact (hb.alloc hb.size _).alloc (Nat.le_trans hb.size (by simp)) _ | exact hb.setCell (by simp [hb.size]) _) hbn; clear hbn))
    go_ret
    exact ⟨_, rfl, by rw [HM.out]; exact hI.based (Nat.le_succ _), hb⟩
  obtain ⟨hn1, hn5, _, _⟩ := isTab_of ht
  have hpl := partsF_len n
  have HM : Hid (mkeysF n R m = minF ((partsF n).filter (uniqF n R m))) := by
    show mkeysF n R m = minF ((partsF n).filter (uniqF n R m))
    unfold mkeysF
    rw [ht, hm]
    simp only [Bool.and_self, if_true]
    have hp := pow_nat (n := n) (by omega) hn5
    refine minF_same (fun x => ?_) (Nat.le_trans (flt_le _ _) (by omega)) (Nat.le_trans (List.length_filter_le _ _) (by omega))
    rw [flt_mem, List.mem_filter, partsF_mem (by omega) hn5, hp.1]
  go_enter Try.func56, Try.ntmps56
  go_wp2_with (first | (go_at_call 79; refine Calls.mono (Ans.eqb (c_IsTable _ _ _ _ _ (hR.keep hb)) ht) ?_; rintro e w1 ⟨rfl, hbn⟩; replace a0 := cell_keep a0 hbn; replace a1 := cell_keep a1 hbn; replace hI := hI.keep hbn; replace hb := bel_to (w := w) (by first | exact hb | exact hb.alloc hb.size _ | exact (hb.alloc hb.size _).alloc (Nat.le_trans hb.size (by simp)) _ | exact hb.setCell (by simp [hb.size]) _) hbn; clear hbn) | (go_at_call 80; refine Calls.mono (Ans.eqb (c_isMode _ _) hm) ?_; rintro e w1 ⟨rfl, hbn⟩; replace a0 := cell_keep a0 hbn; replace a1 := cell_keep a1 hbn; replace hI := hI.keep hbn; replace hb := bel_to (w := w) (by first | exact hb | exact hb.alloc hb.size _ | exact (hb.alloc hb.size _).alloc (Nat.le_trans hb.size (by simp)) _ | exact hb.setCell (by simp [hb.size]) _) hbn; clear hbn))
  have old := hI
  refine (c_PartsBySize n _).mono ?_
  rintro e w2 ⟨v2, rfl, hM, hbn⟩
  have ap_hM := (apart_old old hM).symm
  replace hI := hI.keep hbn
  replace hM := hM.based (World.block_lt_of_cell? _ _ a1)
  replace a0 := cell_keep a0 hbn
  replace a1 := cell_keep a1 hbn
  replace hb := bel_to hb hbn
  clear old hbn
  generalize partsF n = M at *
  obtain ⟨o1, c1, rfl⟩ := hM.shape
  go_wp2
  go_loopw [5, 22] (fun v i wr => ∃ k : Nat, i = .int .i64 k ∧ k ≤ M.length ∧ OwnI wr (w.heap.size + 1) v ((M.take k).filter (uniqF n R m)) ∧ OwnI wr (w.heap.size + 1) (.slice o1 M.length c1) M ∧ Apart (.slice o1 M.length c1) v ∧ wr.cell? ⟨w.heap.size, 0, none⟩ = some (.int .i64 n) ∧ wr.cell? ⟨w.heap.size, 1, none⟩ = some (.slice oa R.length cap) ∧ Below w.heap.size w wr) (fun _ i _ => M.length - (intOf i).toNat)
  case atStart => exact ⟨0, rfl, Nat.zero_le _, by simpa using hI, hM, ap_hM, a0, a1, hb⟩
  case round =>
    clear hI hM ap_hM a0 a1 hb
    obtain ⟨k, rfl, hk, hI, hM, ap_hM, a0, a1, hb⟩ := hrel
    by_cases hlt : k < M.length
    · obtain ⟨b2, off2, rfl, hbs2, hca⟩ := (hM.ints rfl (by unfold Room; omega)).at_ (by omega)
      have hc2 := hca k hlt
      have HT : Hid ((M.take (k + 1)).filter (uniqF n R m) = (M.take k).filter (uniqF n R m) ++ (if uniqF n R m (nth M k) then [nth M k] else [])) := filter_take_succ _ _ _ hlt
      have hfl : ((M.take k).filter (uniqF n R m)).length ≤ 32 := by
        have := List.length_filter_le (uniqF n R m) (M.take k)
        rw [List.length_take] at this
        omega
      clear hca
      generalize nth M k = x at *
      generalize (M.take k).filter (uniqF n R m) = F at *
      cases hu : uniqF n R m x
      · go_wp2_with (first | (go_at_call 29; refine Calls.mono (Ans.eqb (c_IsUnique _ _ _ _ _ _ _ (hR.keep hb)) hu) ?_; rintro e w1 ⟨rfl, hbn⟩; replace a0 := cell_keep a0 hbn; replace a1 := cell_keep a1 hbn; replace hI := hI.keep hbn; replace hM := hM.keep hbn; replace hb := bel_to (w := w) (by first | exact hb | exact hb.alloc hb.size _ | exact (hb.alloc hb.size _).alloc (Nat.le_trans hb.size (by simp)) _ | exact hb.setCell (by simp [hb.size]) _) hbn; clear hbn) | fail)
        go_roundw
        case rel => exact ⟨k + 1, by go_num, by omega, by rw [HT.out, hu]; simpa using hI, hM, ap_hM, a0, a1, hb⟩
        case measure => simp [intOf]; omega
      · go_wp2_with (first | (go_at_call 29; refine Calls.mono (Ans.eqb (c_IsUnique _ _ _ _ _ _ _ (hR.keep hb)) hu) ?_; rintro e w1 ⟨rfl, hbn⟩; replace a0 := cell_keep a0 hbn; replace a1 := cell_keep a1 hbn; replace hI := hI.keep hbn; replace hM := hM.keep hbn; replace hb := bel_to (w := w) (by first | exact hb | exact hb.alloc hb.size _ | exact (hb.alloc hb.size _).alloc (Nat.le_trans hb.size (by simp)) _ | exact hb.setCell (by simp [hb.size]) _) hbn; clear hbn) | (at_builtin; refine wpList_append_fresh rfl _ _ 69 rfl (w.heap.size + 1) 3 i0 (.int .i64 0) 1 8 Try.underlying69 hi hz0 hz1 hz2 rfl (by decide) _ _ _ rfl (World.ownsRow.alloc hI _) _ 1 1 [.int .i64 (x)] rfl rfl (by intro j u hj; match j, hj with | 0, hj => simp at hj; subst hj; simp [Addr.add]) (by intro u hu; simp at hu; subst hu; rfl) (by unfold maxLen; omega) (by omega) (by have := World.block_lt_of_cell? _ _ a1; simp at this; simp; omega) ?_; intro v' w1 hown hgrow hfr; replace hb := (hb.alloc hb.size _).grown hgrow (by have := hb.size; simp; omega) (fun g hg => Nat.le_trans (Nat.le_succ _) (World.ownsRow.lt hI g hg).1); replace a0 := cell_gr (cell_al a0 _) (World.ownsRow.alloc hI _) (by omega) hgrow; replace a1 := cell_gr (cell_al a1 _) (World.ownsRow.alloc hI _) (by omega) hgrow; obtain ⟨hM, ap_hM⟩ := OwnI.past hM hgrow ap_hM hfr; replace hI := OwnI.snoc hown; clear hown hgrow hfr) | fail)
        go_roundw
        case rel => exact ⟨k + 1, by go_num, by omega, by rw [HT.out, hu]; exact hI, hM, ap_hM, a0, a1, hb⟩
        case measure => simp [intOf]; omega
    · have hkk : k = M.length := by omega
      have HE : Hid ((M.take k).filter (uniqF n R m) = M.filter (uniqF n R m)) := by show (M.take k).filter (uniqF n R m) = M.filter (uniqF n R m); rw [hkk, List.take_length]
      have hfr : ((M.take k).filter (uniqF n R m)).length ≤ Room := by
        have := List.length_filter_le (uniqF n R m) (M.take k)
        rw [List.length_take] at this
        unfold Room; omega
      clear hkk
      obtain ⟨oF, cF, rfl, hcF, hnF⟩ := hI.cap
      go_wp2_with fail
      refine (c_MinimalSets _ _ _ _ (hI.ints rfl hfr) hnF).mono ?_
      rintro e w3 ⟨v3, rfl, hR2, hbn⟩
      replace hR2 := hR2.based hb.size
      replace hb := bel_to hb hbn
      clear hbn
      go_wp2
      go_ret
      exact ⟨_, rfl, by rw [HM.out, ← HE.out]; exact hR2, hb⟩
set_option maxHeartbeats 1600000 in
theorem c_specMinimalKeys (n : Int) (oa) (cap : Nat) (R : List (List Int)) (m : Int) (w : World) (hR : RowsAt w oa R) :
    Calls Try.prog 55 #[.agg #[.int .i64 n, .slice oa R.length cap], .int .i64 m] w fun e w' => ∃ v, e = .returned v ∧ OwnI w' w.heap.size v (mkeysF n R m) ∧ Below w.heap.size w w' := by
  obtain ⟨i0, hi, hz0, hz1, hz2⟩ := info_parts info_int
  have hb := bel2 w (.cells #[.int .i64 n, .slice oa R.length cap] 28) (.cells #[] 3)
  have a0 := two_a w #[.int .i64 n, .slice oa R.length cap] 28 #[] 3 0 _ rfl
  have a1 := two_a w #[.int .i64 n, .slice oa R.length cap] 28 #[] 3 1 _ rfl
  have hI : OwnI ((w.alloc (.cells #[.int .i64 n, .slice oa R.length cap] 28)).alloc (.cells #[] 3)) (w.heap.size + 1) (.slice (some ⟨w.heap.size + 1, 0, none⟩) 0 0) [] := by
    have h := (OwnI.empty (w.alloc (.cells #[.int .i64 n, .slice oa R.length cap] 28)) _ (Nat.le_refl _))
    simpa using h
  have HNO : Hid (minF [] = []) := by show minF [] = []; decide +kernel
  cases hf : (isTabF n R && modeF m)
  · have HM : Hid (mkeysF n R m = []) := by show mkeysF n R m = []; unfold mkeysF; rw [hf]; rfl
    go_enter Try.func55, Try.ntmps55
    go_wp2_with fail
    go_loopw [5, 6] (fun v i wr => v = .slice (some ⟨w.heap.size + 1, 0, none⟩) 0 0 ∧ OwnI wr (w.heap.size + 1) (.slice (some ⟨w.heap.size + 1, 0, none⟩) 0 0) [] ∧ wr.cell? ⟨w.heap.size, 0, none⟩ = some (.int .i64 n) ∧ wr.cell? ⟨w.heap.size, 1, none⟩ = some (.slice oa R.length cap) ∧ Below w.heap.size w wr) (fun _ i _ => 0)
    case atStart => exact ⟨rfl, hI, a0, a1, hb⟩
    case round =>
      clear hI a0 a1 hb
      obtain ⟨rfl, hI, a0, a1, hb⟩ := hrel
      go_wp2_with (first | (go_at_call 75; refine Calls.mono (Ans.eqb (c_l4Fine _ _ _ _ _ _ (hR.keep hb)) hf) ?_; rintro e w1 ⟨rfl, hbn⟩; replace a0 := cell_keep a0 hbn; replace a1 := cell_keep a1 hbn; replace hI := hI.keep hbn; replace hb := bel_to (w := w) (by first | exact hb | exact hb.alloc hb.size _ | exact (hb.alloc hb.size _).alloc (Nat.le_trans hb.size (by simp)) _ | exact hb.setCell (by simp [hb.size]) _) hbn; clear hbn))
      refine (c_specMinimalSets _ _ [] _ (hI.ints rfl (by simp))).mono ?_
      rintro e w3 ⟨v3, rfl, hR2, hbn⟩
      replace hR2 := hR2.based hb.size
      replace hb := bel_to hb hbn
      clear hbn
      go_wp2
      go_ret
      exact ⟨_, rfl, by rw [HM.out, ← HNO.out]; exact hR2, hb⟩
  have ht : isTabF n R = true := by have := hf; simp only [Bool.and_eq_true] at this; exact this.1
  obtain ⟨hn1, hn5, _, _⟩ := isTab_of ht
  have HM : Hid (mkeysF n R m = minF (flt (uniqF n R m) (2 ^ n.toNat))) := by show mkeysF n R m = _; unfold mkeysF; rw [if_pos hf]
  have hn01 : 0 ≤ n ∧ n ≤ 5 := ⟨by omega, hn5⟩
  obtain ⟨hp1, hp2, hp3⟩ := pow_nat (n := n) (by omega) hn5
  generalize hN : (2 : Nat) ^ n.toNat = N at *
  have hAll : allM n = (N : Int) - 1 := by unfold allM; rw [← hp1]
  clear hp1 hN ht
  go_enter Try.func55, Try.ntmps55
  go_wp2_with fail
  go_loopw [5, 6] (fun v i wr => ∃ k : Nat, i = .int .i64 k ∧ k ≤ N ∧ OwnI wr (w.heap.size + 1) v (flt (uniqF n R m) k) ∧ wr.cell? ⟨w.heap.size, 0, none⟩ = some (.int .i64 n) ∧ wr.cell? ⟨w.heap.size, 1, none⟩ = some (.slice oa R.length cap) ∧ Below w.heap.size w wr) (fun _ i _ => N - (intOf i).toNat)
  case atStart => exact ⟨0, rfl, Nat.zero_le _, hI, a0, a1, hb⟩
  case round =>
    clear hI a0 a1 hb
    obtain ⟨k, rfl, hk, hI, a0, a1, hb⟩ := hrel
    have HS : Hid (flt (uniqF n R m) (k + 1) = flt (uniqF n R m) k ++ (if uniqF n R m k then [(k : Int)] else [])) := flt_succ _ k
    have hle := flt_le (uniqF n R m) k
    by_cases hlt : k < N
    · have hd : decide ((k : Int) ≤ (N : Int) - 1) = true := by simp; omega
      cases hu : uniqF n R m (k : Int)
      · go_wp2_with (first | (go_at_call 75; refine Calls.mono (Ans.eqb (c_l4Fine _ _ _ _ _ _ (hR.keep hb)) hf) ?_; rintro e w1 ⟨rfl, hbn⟩; replace a0 := cell_keep a0 hbn; replace a1 := cell_keep a1 hbn; replace hI := hI.keep hbn; replace hb := bel_to (w := w) (by first | exact hb | exact hb.alloc hb.size _ | exact (hb.alloc hb.size _).alloc (Nat.le_trans hb.size (by simp)) _ | exact hb.setCell (by simp [hb.size]) _) hbn; clear hbn) | (go_at_call 88; refine Calls.mono (c_l2All _ hn01 _) ?_; rintro e w1 ⟨rfl, hbn⟩; replace a0 := cell_keep a0 hbn; replace a1 := cell_keep a1 hbn; replace hI := hI.keep hbn; replace hb := bel_to (w := w) (by first | exact hb | exact hb.alloc hb.size _ | exact (hb.alloc hb.size _).alloc (Nat.le_trans hb.size (by simp)) _ | exact hb.setCell (by simp [hb.size]) _) hbn; clear hbn) | (go_at_call 27; refine Calls.mono (Ans.eqb (c_specIsUnique _ _ _ _ _ _ _ (hR.keep hb)) hu) ?_; rintro e w1 ⟨rfl, hbn⟩; replace a0 := cell_keep a0 hbn; replace a1 := cell_keep a1 hbn; replace hI := hI.keep hbn; replace hb := bel_to (w := w) (by first | exact hb | exact hb.alloc hb.size _ | exact (hb.alloc hb.size _).alloc (Nat.le_trans hb.size (by simp)) _ | exact hb.setCell (by simp [hb.size]) _) hbn; clear hbn) | fail)
        go_roundw
        case rel => exact ⟨k + 1, by go_num, by omega, by rw [HS.out, hu]; simpa using hI, a0, a1, hb⟩
        case measure => simp [intOf]; omega
      · go_wp2_with (first | (go_at_call 75; refine Calls.mono (Ans.eqb (c_l4Fine _ _ _ _ _ _ (hR.keep hb)) hf) ?_; rintro e w1 ⟨rfl, hbn⟩; replace a0 := cell_keep a0 hbn; replace a1 := cell_keep a1 hbn; replace hI := hI.keep hbn; replace hb := bel_to (w := w) (by first | exact hb | exact hb.alloc hb.size _ | exact (hb.alloc hb.size _).alloc (Nat.le_trans hb.size (by simp)) _ | exact hb.setCell (by simp [hb.size]) _) hbn; clear hbn) | (go_at_call 88; refine Calls.mono (c_l2All _ hn01 _) ?_; rintro e w1 ⟨rfl, hbn⟩; replace a0 := cell_keep a0 hbn; replace a1 := cell_keep a1 hbn; replace hI := hI.keep hbn; replace hb := bel_to (w := w) (by first | exact hb | exact hb.alloc hb.size _ | exact (hb.alloc hb.size _).alloc (Nat.le_trans hb.size (by simp)) _ | exact hb.setCell (by simp [hb.size]) _) hbn; clear hbn) | (go_at_call 27; refine Calls.mono (Ans.eqb (c_specIsUnique _ _ _ _ _ _ _ (hR.keep hb)) hu) ?_; rintro e w1 ⟨rfl, hbn⟩; replace a0 := cell_keep a0 hbn; replace a1 := cell_keep a1 hbn; replace hI := hI.keep hbn; replace hb := bel_to (w := w) (by first | exact hb | exact hb.alloc hb.size _ | exact (hb.alloc hb.size _).alloc (Nat.le_trans hb.size (by simp)) _ | exact hb.setCell (by simp [hb.size]) _) hbn; clear hbn) | (at_builtin; refine wpList_append_fresh rfl _ _ 69 rfl (w.heap.size + 1) 3 i0 (.int .i64 0) 1 8 Try.underlying69 hi hz0 hz1 hz2 rfl (by decide) _ _ _ rfl (World.ownsRow.alloc hI _) _ 1 1 [.int .i64 ((k : Int))] rfl rfl (by intro j u hj; match j, hj with | 0, hj => simp at hj; subst hj; simp [Addr.add]) (by intro u hu; simp at hu; subst hu; rfl) (by unfold maxLen; omega) (by omega) (by have := World.block_lt_of_cell? _ _ a1; simp at this; simp; omega) ?_; intro v' w1 hown hgrow hfr; replace hb := (hb.alloc hb.size _).grown hgrow (by have := hb.size; simp; omega) (fun g hg => Nat.le_trans (Nat.le_succ _) (World.ownsRow.lt hI g hg).1); replace a0 := cell_gr (cell_al a0 _) (World.ownsRow.alloc hI _) (by omega) hgrow; replace a1 := cell_gr (cell_al a1 _) (World.ownsRow.alloc hI _) (by omega) hgrow; replace hI := OwnI.snoc hown; clear hown hgrow hfr) | fail)
        go_roundw
        case rel => exact ⟨k + 1, by go_num, by omega, by rw [HS.out, hu]; exact hI, a0, a1, hb⟩
        case measure => simp [intOf]; omega
    · have hkk : k = N := by omega
      have HK : Hid (k = N) := hkk
      have hd : decide ((k : Int) ≤ (N : Int) - 1) = false := by simp; omega
      clear hkk
      have hfr : (flt (uniqF n R m) k).length ≤ Room := by unfold Room; omega
      obtain ⟨oF, cF, rfl⟩ := hI.shape
      go_wp2_with (first | (go_at_call 75; refine Calls.mono (Ans.eqb (c_l4Fine _ _ _ _ _ _ (hR.keep hb)) hf) ?_; rintro e w1 ⟨rfl, hbn⟩; replace a0 := cell_keep a0 hbn; replace a1 := cell_keep a1 hbn; replace hI := hI.keep hbn; replace hb := bel_to (w := w) (by first | exact hb | exact hb.alloc hb.size _ | exact (hb.alloc hb.size _).alloc (Nat.le_trans hb.size (by simp)) _ | exact hb.setCell (by simp [hb.size]) _) hbn; clear hbn) | (go_at_call 88; refine Calls.mono (c_l2All _ hn01 _) ?_; rintro e w1 ⟨rfl, hbn⟩; replace a0 := cell_keep a0 hbn; replace a1 := cell_keep a1 hbn; replace hI := hI.keep hbn; replace hb := bel_to (w := w) (by first | exact hb | exact hb.alloc hb.size _ | exact (hb.alloc hb.size _).alloc (Nat.le_trans hb.size (by simp)) _ | exact hb.setCell (by simp [hb.size]) _) hbn; clear hbn) | fail)
      refine (c_specMinimalSets _ _ _ _ (hI.ints rfl hfr)).mono ?_
      rintro e w3 ⟨v3, rfl, hR2, hbn⟩
      replace hR2 := hR2.based hb.size
      replace hb := bel_to hb hbn
      clear hbn
      go_wp2
      go_ret
      exact ⟨_, rfl, by rw [HM.out, ← HK.out]; exact hR2, hb⟩
end Go.Proofs.Ytkanbnbofoabeaa
