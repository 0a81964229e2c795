/- KeysOf and PrimeColumns, of the program and of the reference. -/
import Derived.Test.YtjgfndbgenhjbaaMin4
namespace Go.Proofs.Ytjgfndbgenhjbaa
open Go.RowKit
set_option linter.unusedVariables false
set_option maxRecDepth 100000

def supF (n : Int) (D : List (Int × Int)) (x : Int) : Bool := cloF D x == allM n
def keysOfF (n : Int) (D : List (Int × Int)) : List Int := if areDepsF n D then minF (flt (supF n D) (2 ^ n.toNat)) else []
theorem keysOf_len (n : Int) (D : List (Int × Int)) : (keysOfF n D).length ≤ Room := by
  unfold keysOfF
  split
  · have := minF_len (flt (supF n D) (2 ^ n.toNat)); unfold Room; omega
  · simp
theorem minF_nil : minF [] = [] := by decide
def primeF (n : Int) (D : List (Int × Int)) : Int := (keysOfF n D).foldl uni 0

set_option maxHeartbeats 400000 in
theorem c_KeysOf (n : Int) (oa) (cap : Nat) (D : List (Int × Int)) (w : World) (hD : DepsAt w oa D) :
    Calls Try.prog 43 #[.int .i64 n, .slice oa D.length cap] w fun e w' => ∃ v, e = .returned v ∧ OwnI w' w.heap.size v (keysOfF n D) ∧ Below w.heap.size w w' := by
  obtain ⟨i0, hi, hz0, hz1, hz2⟩ := info_parts info_int
  have hb := (Below.refl w.heap.size w).alloc (Nat.le_refl _) (.cells #[] 3)
  have hI := OwnI.empty w w.heap.size (Nat.le_refl _)
  cases ha : areDepsF n D
  · have HM : Hid (keysOfF n D = []) := by unfold keysOfF; rw [ha]; rfl
    go_enter Try.func43, Try.ntmps43
    go_wp2_with (first | (go_at_call 62; refine Calls.mono (c_AreDeps _ _ _ _ _ (hD.keep hb)) ?_; rintro e w1 ⟨rfl, hbn⟩; replace hI := hI.keep hbn; replace hb := bel_to (w := w) (by first | exact hb | exact hb.alloc hb.size _ | exact (hb.alloc hb.size _).alloc (Nat.le_trans hb.size (by simp)) _ | exact hb.setCell (by simp [hb.size]) _) hbn; clear hbn))
    go_ret
    exact ⟨_, rfl, by rw [HM.out]; exact hI, hb⟩
  · obtain ⟨hv, hn1, hn5, _⟩ := areDepsF_val ha
    have HM : Hid (keysOfF n D = minF (flt (supF n D) (2 ^ n.toNat))) := by unfold keysOfF; rw [ha]; rfl
    have hp := (pow_wrap (by omega) hn5).1
    obtain ⟨hp1, hp2, hp3⟩ := pow_nat (n := n) (by omega) hn5
    generalize hN : (2 : Nat) ^ n.toNat = N at *
    have HN : Hid ((N : Int) = 2 ^ n.toNat) := hp1
    have hp4 : wrap64 (2 ^ n.toNat) = N := by rw [hp, ← hp1]
    have HAll : Hid (allM n = (N : Int) - 1) := by show allM n = (N : Int) - 1; unfold allM; rw [← hp1]
    clear hp hp1 hN
    go_enter Try.func43, Try.ntmps43
    go_wp2_with (first | (go_at_call 62; refine Calls.mono (c_AreDeps _ _ _ _ _ (hD.keep hb)) ?_; rintro e w1 ⟨rfl, hbn⟩; replace hI := hI.keep hbn; replace hb := bel_to (w := w) (by first | exact hb | exact hb.alloc hb.size _ | exact (hb.alloc hb.size _).alloc (Nat.le_trans hb.size (by simp)) _ | exact hb.setCell (by simp [hb.size]) _) hbn; clear hbn))
    go_loopw [5, 6] (fun v i wr => ∃ k : Nat, i = .int .i64 k ∧ k ≤ N ∧ OwnI wr w.heap.size v (flt (supF n D) k) ∧ Below w.heap.size w wr) (fun _ i _ => N - (intOf i).toNat)
    case atStart => exact ⟨0, rfl, Nat.zero_le _, hI, hb⟩
    case round =>
      clear hI hb
      obtain ⟨k, rfl, hk, hI, hb⟩ := hrel
      have HS : Hid (flt (supF n D) (k + 1) = flt (supF n D) k ++ (if supF n D k then [(k : Int)] else [])) := flt_succ _ k
      have hle := flt_le (supF n D) k
      by_cases hlt : k < N
      · have hst : St (k : Int) := ⟨by omega, by omega⟩
        have hsu : supF n D k = (cloF D (k : Int) == (N : Int) - 1) := by unfold supF; rw [HAll.out]
        have hDx := fun (wr : World) (hbr : Below w.heap.size w wr) (x : After wr) => hD.keep (bel_to (w := w) hbr x.bel)
        have HSU : Hid (supF n D k = (cloF D (k : Int) == (N : Int) - 1)) := hsu
        clear hsu
        cases hh : (cloF D (k : Int) == (N : Int) - 1)
        · go_wp2_with fail
          (refine wp_region_after (by kernel_rfl) (by kernel_rfl) ?_; (repeat (go_big_quiet_step ((first | (go_at_call 66; exact Ans.after (c_closure _ _ _ _ _ (hDx _ hb _) hst hv)))))); refine wpQuiet_nil ?_; rintro _ ⟨⟨w1, hbn⟩, rfl⟩; (try simp only [After.w]); replace hI := hI.keep hbn; replace hb := bel_to (w := w) (by first | exact hb | exact hb.alloc hb.size _ | exact (hb.alloc hb.size _).alloc (Nat.le_trans hb.size (by simp)) _ | exact hb.setCell (by simp [hb.size]) _) hbn; clear hbn)
          go_wp2
          go_roundw
          case rel => exact ⟨k + 1, by go_num, by omega, by rw [HS.out, HSU.out, hh]; simpa using hI, hb⟩
          case measure => simp [intOf]; omega
        · go_wp2_with fail
          (refine wp_region_after (by kernel_rfl) (by kernel_rfl) ?_; (repeat (go_big_quiet_step ((first | (go_at_call 66; exact Ans.after (c_closure _ _ _ _ _ (hDx _ hb _) hst hv)))))); refine wpQuiet_nil ?_; rintro _ ⟨⟨w1, hbn⟩, rfl⟩; (try simp only [After.w]); replace hI := hI.keep hbn; replace hb := bel_to (w := w) (by first | exact hb | exact hb.alloc hb.size _ | exact (hb.alloc hb.size _).alloc (Nat.le_trans hb.size (by simp)) _ | exact hb.setCell (by simp [hb.size]) _) hbn; clear hbn)
          go_wp2_with (first | (at_builtin; refine wpList_append_own _ rfl _ _ 60 rfl w.heap.size 3 i0 (.int .i64 0) 1 8 Try.underlying60 hi hz0 hz1 hz2 rfl (by decide) _ _ _ rfl (World.ownsRow.alloc hI _) _ 1 1 [.int .i64 ((k : Int))] rfl rfl (by intro j u hj; match j, hj with | 0, hj => simp at hj; subst hj; simp [Addr.add]) (by intro u hu; simp at hu; subst hu; rfl) (by unfold maxLen; omega) (by omega) (by have := hb.size; simp; omega) ?_; intro v' w1 hown hgrow _; replace hb := (hb.alloc hb.size _).grown hgrow (by have := hb.size; simp; omega) (fun g hg => (World.ownsRow.lt hI g hg).1); replace hI := OwnI.snoc hown; clear hown hgrow) | fail)
          go_roundw
          case rel => exact ⟨k + 1, by go_num, by omega, by rw [HS.out, HSU.out, hh]; exact hI, hb⟩
          case measure => simp [intOf]; omega
      · have hkk : k = N := by omega
        have HK : Hid (k = N) := hkk
        clear hkk
        have hfr : (flt (supF n D) k).length ≤ Room := by have := flt_le (supF n D) k; unfold Room; omega
        obtain ⟨oF, cF, rfl, hcF, hnF⟩ := hI.cap
        have hF := hI.ints rfl hfr
        go_wp2_with fail
        refine (c_MinimalSets _ _ _ _ hF hnF).mono ?_
        rintro e w1 ⟨v1, rfl, hR, hbn⟩
        replace hR := hR.based hb.size
        replace hb := bel_to hb hbn
        clear hbn
        go_wp2
        go_ret
        exact ⟨_, rfl, by rw [HM.out, ← HK.out]; exact hR, hb⟩
set_option maxHeartbeats 400000 in
theorem c_specKeysOf (n : Int) (oa) (cap : Nat) (D : List (Int × Int)) (w : World) (hD : DepsAt w oa D) :
    Calls Try.prog 42 #[.int .i64 n, .slice oa D.length cap] w fun e w' => ∃ v, e = .returned v ∧ OwnI w' w.heap.size v (keysOfF n D) ∧ Below w.heap.size w w' := by
  obtain ⟨i0, hi, hz0, hz1, hz2⟩ := info_parts info_int
  have hb := (Below.refl w.heap.size w).alloc (Nat.le_refl _) (.cells #[] 3)
  have hI := OwnI.empty w w.heap.size (Nat.le_refl _)
  cases ha : areDepsF n D
  · have HM : Hid (keysOfF n D = []) := by unfold keysOfF; rw [ha]; rfl
    go_enter Try.func42, Try.ntmps42
    go_wp2
    go_loopw [5, 6] (fun v i wr => i = .int .i64 0 ∧ OwnI wr w.heap.size v [] ∧ Below w.heap.size w wr) (fun _ i _ => 0)
    case atStart => exact ⟨rfl, hI, hb⟩
    case round =>
      clear hI hb
      obtain ⟨rfl, hI, hb⟩ := hrel
      obtain ⟨oF, cF, rfl⟩ := hI.shape
      go_wp2_with (first | (go_at_call 58; refine Calls.mono (c_specAreDeps _ _ _ _ _ (hD.keep hb)) ?_; rintro e w1 ⟨rfl, hbn⟩; replace hI := hI.keep hbn; replace hb := bel_to (w := w) (by first | exact hb | exact hb.alloc hb.size _ | exact (hb.alloc hb.size _).alloc (Nat.le_trans hb.size (by simp)) _ | exact hb.setCell (by simp [hb.size]) _) hbn; clear hbn))
      refine (c_specMinimalSets _ _ [] _ (hI.ints rfl (by simp))).mono ?_
      rintro e w1 ⟨v1, rfl, hR, hbn⟩
      replace hR := hR.based hb.size
      replace hb := bel_to hb hbn
      clear hbn
      go_wp2
      go_ret
      exact ⟨_, rfl, by rw [HM.out, ← minF_nil]; exact hR, hb⟩
  · obtain ⟨hv, hn1, hn5, _⟩ := areDepsF_val ha
    have HM : Hid (keysOfF n D = minF (flt (supF n D) (2 ^ n.toNat))) := by unfold keysOfF; rw [ha]; rfl
    have hn01 : 0 ≤ n ∧ n ≤ 5 := ⟨by omega, hn5⟩
    obtain ⟨hp1, hp2, hp3⟩ := pow_nat (n := n) (by omega) hn5
    generalize hN : (2 : Nat) ^ n.toNat = N at *
    have hAll : allM n = (N : Int) - 1 := by unfold allM; rw [← hp1]
    clear hp1 hN
    go_enter Try.func42, Try.ntmps42
    go_wp2
    go_loopw [5, 6] (fun v i wr => ∃ k : Nat, i = .int .i64 k ∧ k ≤ N ∧ OwnI wr w.heap.size v (flt (supF n D) k) ∧ Below w.heap.size w wr) (fun _ i _ => N - (intOf i).toNat)
    case atStart => exact ⟨0, rfl, Nat.zero_le _, hI, hb⟩
    case round =>
      clear hI hb
      obtain ⟨k, rfl, hk, hI, hb⟩ := hrel
      have HS : Hid (flt (supF n D) (k + 1) = flt (supF n D) k ++ (if supF n D k then [(k : Int)] else [])) := flt_succ _ k
      have hle := flt_le (supF n D) k
      by_cases hlt : k < N
      · have hst : St (k : Int) := ⟨by omega, by omega⟩
        have hd : decide ((k : Int) ≤ (N : Int) - 1) = true := by simp; omega
        have HSU : Hid (supF n D k = (cloF D (k : Int) == (N : Int) - 1)) := by show supF n D k = (cloF D (k : Int) == (N : Int) - 1); unfold supF; rw [hAll]
        cases hh : (cloF D (k : Int) == (N : Int) - 1)
        · go_wp2_with (first | (go_at_call 58; refine Calls.mono (c_specAreDeps _ _ _ _ _ (hD.keep hb)) ?_; rintro e w1 ⟨rfl, hbn⟩; replace hI := hI.keep hbn; replace hb := bel_to (w := w) (by first | exact hb | exact hb.alloc hb.size _ | exact (hb.alloc hb.size _).alloc (Nat.le_trans hb.size (by simp)) _ | exact hb.setCell (by simp [hb.size]) _) hbn; clear hbn) | (go_at_call 89; refine Calls.mono (c_l2All _ hn01 _) ?_; rintro e w1 ⟨rfl, hbn⟩; replace hI := hI.keep hbn; replace hb := bel_to (w := w) (by first | exact hb | exact hb.alloc hb.size _ | exact (hb.alloc hb.size _).alloc (Nat.le_trans hb.size (by simp)) _ | exact hb.setCell (by simp [hb.size]) _) hbn; clear hbn) | (go_at_call 61; refine Calls.mono (c_l10Close _ _ _ _ _ (hD.keep hb) hst hv) ?_; rintro e w1 ⟨rfl, hbn⟩; replace hI := hI.keep hbn; replace hb := bel_to (w := w) (by first | exact hb | exact hb.alloc hb.size _ | exact (hb.alloc hb.size _).alloc (Nat.le_trans hb.size (by simp)) _ | exact hb.setCell (by simp [hb.size]) _) hbn; clear hbn))
          go_roundw
          case rel => exact ⟨k + 1, by go_num, by omega, by rw [HS.out, HSU.out, hh]; simpa using hI, hb⟩
          case measure => simp [intOf]; omega
        · go_wp2_with (first | (go_at_call 58; refine Calls.mono (c_specAreDeps _ _ _ _ _ (hD.keep hb)) ?_; rintro e w1 ⟨rfl, hbn⟩; replace hI := hI.keep hbn; replace hb := bel_to (w := w) (by first | exact hb | exact hb.alloc hb.size _ | exact (hb.alloc hb.size _).alloc (Nat.le_trans hb.size (by simp)) _ | exact hb.setCell (by simp [hb.size]) _) hbn; clear hbn) | (go_at_call 89; refine Calls.mono (c_l2All _ hn01 _) ?_; rintro e w1 ⟨rfl, hbn⟩; replace hI := hI.keep hbn; replace hb := bel_to (w := w) (by first | exact hb | exact hb.alloc hb.size _ | exact (hb.alloc hb.size _).alloc (Nat.le_trans hb.size (by simp)) _ | exact hb.setCell (by simp [hb.size]) _) hbn; clear hbn) | (go_at_call 61; refine Calls.mono (c_l10Close _ _ _ _ _ (hD.keep hb) hst hv) ?_; rintro e w1 ⟨rfl, hbn⟩; replace hI := hI.keep hbn; replace hb := bel_to (w := w) (by first | exact hb | exact hb.alloc hb.size _ | exact (hb.alloc hb.size _).alloc (Nat.le_trans hb.size (by simp)) _ | exact hb.setCell (by simp [hb.size]) _) hbn; clear hbn) | (at_builtin; refine wpList_append_own _ rfl _ _ 60 rfl w.heap.size 3 i0 (.int .i64 0) 1 8 Try.underlying60 hi hz0 hz1 hz2 rfl (by decide) _ _ _ rfl (World.ownsRow.alloc hI _) _ 1 1 [.int .i64 ((k : Int))] rfl rfl (by intro j u hj; match j, hj with | 0, hj => simp at hj; subst hj; simp [Addr.add]) (by intro u hu; simp at hu; subst hu; rfl) (by unfold maxLen; omega) (by omega) (by have := hb.size; simp; omega) ?_; intro v' w1 hown hgrow _; replace hb := (hb.alloc hb.size _).grown hgrow (by have := hb.size; simp; omega) (fun g hg => (World.ownsRow.lt hI g hg).1); replace hI := OwnI.snoc hown; clear hown hgrow))
          go_roundw
          case rel => exact ⟨k + 1, by go_num, by omega, by rw [HS.out, HSU.out, hh]; exact hI, hb⟩
          case measure => simp [intOf]; omega
      · have hkk : k = N := by omega
        have HK : Hid (k = N) := hkk
        have hd : decide ((k : Int) ≤ (N : Int) - 1) = false := by simp; omega
        clear hkk
        have hfr : (flt (supF n D) k).length ≤ Room := by have := flt_le (supF n D) k; unfold Room; omega
        obtain ⟨oF, cF, rfl, hcF, hnF⟩ := hI.cap
        have hF := hI.ints rfl hfr
        go_wp2_with (first | (go_at_call 58; refine Calls.mono (c_specAreDeps _ _ _ _ _ (hD.keep hb)) ?_; rintro e w1 ⟨rfl, hbn⟩; replace hI := hI.keep hbn; replace hF := hF.keep hbn; replace hb := bel_to (w := w) (by first | exact hb | exact hb.alloc hb.size _ | exact (hb.alloc hb.size _).alloc (Nat.le_trans hb.size (by simp)) _ | exact hb.setCell (by simp [hb.size]) _) hbn; clear hbn) | (go_at_call 89; refine Calls.mono (c_l2All _ hn01 _) ?_; rintro e w1 ⟨rfl, hbn⟩; replace hI := hI.keep hbn; replace hF := hF.keep hbn; replace hb := bel_to (w := w) (by first | exact hb | exact hb.alloc hb.size _ | exact (hb.alloc hb.size _).alloc (Nat.le_trans hb.size (by simp)) _ | exact hb.setCell (by simp [hb.size]) _) hbn; clear hbn))
        refine (c_specMinimalSets _ _ _ _ hF).mono ?_
        rintro e w1 ⟨v1, rfl, hR, hbn⟩
        replace hR := hR.based hb.size
        replace hb := bel_to hb hbn
        clear hbn
        go_wp2
        go_ret
        exact ⟨_, rfl, by rw [HM.out, ← HK.out]; exact hR, hb⟩

theorem keysOf_st {n : Int} {D : List (Int × Int)} : ∀ x ∈ keysOfF n D, St x := by
  unfold keysOfF
  split
  · exact minF_st
  · intro x hx; cases hx
theorem foldl_take_succ (f : Int → Int → Int) (z : Int) (L : List Int) (k : Nat) (hk : k < L.length) : (L.take (k + 1)).foldl f z = f ((L.take k).foldl f z) (nth L k) := by
  rw [List.take_add_one, nth_eq hk, List.foldl_append]; rfl
theorem c_PrimeColumns (n : Int) (oa) (cap : Nat) (D : List (Int × Int)) (w : World) (hD : DepsAt w oa D) :
    Ans Try.prog 48 #[.int .i64 n, .slice oa D.length cap] w (.int .i64 (primeF n D)) := by
  unfold Ans
  have hr := keysOf_len n D
  go_enter Try.func48, Try.ntmps48
  go_wp2_with fail
  refine (c_KeysOf _ _ _ _ _ hD).mono ?_
  rintro e w1 ⟨v1, rfl, hK, hb⟩
  have HP : Hid (primeF n D = (keysOfF n D).foldl uni 0) := rfl
  generalize keysOfF n D = K at *
  have hn : K.length ≤ 1073741824 := hr
  obtain ⟨o1, c1, rfl⟩ := hK.shape
  have hL := hK.ints rfl hr
  go_wp2
  go_loop [5, 12] (fun x i => ∃ k : Nat, i = .int .i64 k ∧ k ≤ K.length ∧ x = .int .i64 ((K.take k).foldl uni 0)) (fun _ i => K.length - (intOf i).toNat)
  case atStart => exact ⟨0, rfl, Nat.zero_le _, by simp⟩
  case round =>
    obtain ⟨k, rfl, hk, rfl⟩ := hrel
    by_cases hlt : k < K.length
    · obtain ⟨b, off, rfl, hbs, hc⟩ := hL.at_ (by omega)
      have hc1 := hc k hlt
      clear hc
      have HS : Hid ((K.take (k + 1)).foldl uni 0 = uni ((K.take k).foldl uni 0) (nth K k)) := foldl_take_succ _ _ _ _ hlt
      generalize (K.take k).foldl uni 0 = x at *
      go_wp2
      go_round
      case rel => exact ⟨k + 1, by go_num, by omega, by rw [HS.out]; rfl⟩
      case measure => simp [intOf]; omega
    · have hkk : k = K.length := by omega
      have HE : Hid ((K.take k).foldl uni 0 = K.foldl uni 0) := by show (K.take k).foldl uni 0 = K.foldl uni 0; rw [hkk, List.take_length]
      clear hkk
      go_wp2
      go_ret
      exact ⟨ret_int (by rw [HP.out, ← HE.out]), hb⟩
theorem c_specPrimeColumns (n : Int) (oa) (cap : Nat) (D : List (Int × Int)) (w : World) (hD : DepsAt w oa D) :
    Ans Try.prog 47 #[.int .i64 n, .slice oa D.length cap] w (.int .i64 (primeF n D)) := by
  unfold Ans
  have hr := keysOf_len n D
  go_enter Try.func47, Try.ntmps47
  go_wp2_with fail
  refine (c_specKeysOf _ _ _ _ _ hD).mono ?_
  rintro e w1 ⟨v1, rfl, hK, hb⟩
  have HP : Hid (primeF n D = (keysOfF n D).foldl uni 0) := rfl
  generalize keysOfF n D = K at *
  have hn : K.length ≤ 1073741824 := hr
  obtain ⟨o1, c1, rfl⟩ := hK.shape
  have hL := hK.ints rfl hr
  go_wp2
  go_loop [5, 7] (fun x i => ∃ k : Nat, i = .int .i64 k ∧ k ≤ K.length ∧ x = .int .i64 ((K.take k).foldl uni 0)) (fun _ i => K.length - (intOf i).toNat)
  case atStart => exact ⟨0, rfl, Nat.zero_le _, by simp⟩
  case round =>
    obtain ⟨k, rfl, hk, rfl⟩ := hrel
    by_cases hlt : k < K.length
    · obtain ⟨b, off, rfl, hbs, hc⟩ := hL.at_ (by omega)
      have hc1 := hc k hlt
      clear hc
      have HS : Hid ((K.take (k + 1)).foldl uni 0 = uni ((K.take k).foldl uni 0) (nth K k)) := foldl_take_succ _ _ _ _ hlt
      generalize (K.take k).foldl uni 0 = x at *
      go_wp2
      go_round
      case rel => exact ⟨k + 1, by go_num, by omega, by rw [HS.out]; rfl⟩
      case measure => simp [intOf]; omega
    · have hkk : k = K.length := by omega
      have HE : Hid ((K.take k).foldl uni 0 = K.foldl uni 0) := by show (K.take k).foldl uni 0 = K.foldl uni 0; rw [hkk, List.take_length]
      clear hkk
      go_wp2
      go_ret
      exact ⟨ret_int (by rw [HP.out, ← HE.out]), hb⟩
end Go.Proofs.Ytjgfndbgenhjbaa
