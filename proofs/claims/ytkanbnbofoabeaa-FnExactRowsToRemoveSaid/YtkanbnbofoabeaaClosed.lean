/- ClosedSets, of the program and of the reference. -/
import Derived.Test.YtkanbnbofoabeaaImplies
import Derived.Test.YtkanbnbofoabeaaMembers
namespace Go.Proofs.Ytkanbnbofoabeaa
open Go.RowKit
set_option linter.unusedVariables false
set_option maxRecDepth 100000

/-- The numbers below k that meet p. -/
def flt (p : Int → Bool) (k : Nat) : List Int := ((List.range k).map fun (c : Nat) => (c : Int)).filter p
theorem flt_succ (p : Int → Bool) (k : Nat) : flt p (k + 1) = flt p k ++ (if p k then [(k : Int)] else []) := by
  unfold flt
  rw [List.range_succ, List.map_append, List.filter_append]
  simp [List.filter_cons]
theorem flt_le (p : Int → Bool) (k : Nat) : (flt p k).length ≤ k := by
  have := List.length_filter_le p ((List.range k).map fun (c : Nat) => (c : Int))
  simpa [flt] using this
theorem flt_mem {p : Int → Bool} {k : Nat} {x : Int} : x ∈ flt p k ↔ (0 ≤ x ∧ x < k) ∧ p x = true := by
  unfold flt
  rw [List.mem_filter, List.mem_map]
  constructor
  · rintro ⟨⟨c, hc, rfl⟩, h⟩
    exact ⟨⟨by omega, by have := List.mem_range.1 hc; omega⟩, h⟩
  · rintro ⟨⟨h0, h1⟩, h⟩
    exact ⟨⟨x.toNat, List.mem_range.2 (by omega), by omega⟩, h⟩

def closedSetsF (n : Int) (D : List (Int × Int)) : List Int := if areDepsF n D then flt (fun x => cloF D x == x) (2 ^ n.toNat) else []
theorem pow_nat {n : Int} (h0 : 0 ≤ n) (h5 : n ≤ 5) : ((2 ^ n.toNat : Nat) : Int) = 2 ^ n.toNat ∧ (2 : Nat) ^ n.toNat ≤ 32 ∧ 1 ≤ (2 : Nat) ^ n.toNat := by
  obtain ⟨m, rfl⟩ := Int.eq_ofNat_of_zero_le h0
  have h : ∀ m < 6, ((2 ^ ((m : Nat) : Int).toNat : Nat) : Int) = 2 ^ ((m : Nat) : Int).toNat ∧ (2 : Nat) ^ ((m : Nat) : Int).toNat ≤ 32 ∧ 1 ≤ (2 : Nat) ^ ((m : Nat) : Int).toNat := by decide +kernel
  exact h m (by omega)

set_option maxHeartbeats 400000 in
theorem c_ClosedSets (n : Int) (oa) (cap : Nat) (D : List (Int × Int)) (w : World) (hD : DepsAt w oa D) :
    Calls Try.prog 89 #[.int .i64 n, .slice oa D.length cap] w fun e w' => ∃ v, e = .returned v ∧ OwnI w' w.heap.size v (closedSetsF n D) ∧ Below w.heap.size w w' := by
  obtain ⟨i0, hi, hz0, hz1, hz2⟩ := info_parts info_int
  have hb := (Below.refl w.heap.size w).alloc (Nat.le_refl _) (.cells #[] 3)
  have hI := OwnI.empty w w.heap.size (Nat.le_refl _)
  cases ha : areDepsF n D
  · have HM : Hid (closedSetsF n D = []) := by unfold closedSetsF; rw [ha]; rfl
    go_enter Try.func89, Try.ntmps89
    go_wp2_with (first | (go_at_call 66; refine Calls.mono (c_AreDeps _ _ _ _ _ (hD.keep hb)) ?_; rintro e w1 ⟨rfl, hbn⟩; replace hI := hI.keep hbn; replace hb := bel_to (w := w) (by first | exact hb | exact hb.alloc hb.size _ | exact (hb.alloc hb.size _).alloc (Nat.le_trans hb.size (by simp)) _ | exact hb.setCell (by simp [hb.size]) _) hbn; clear hbn))
    go_ret
    exact ⟨_, rfl, by rw [HM.out]; exact hI, hb⟩
  · obtain ⟨hv, hn1, hn5, _⟩ := areDepsF_val ha
    have HM : Hid (closedSetsF n D = flt (fun x => cloF D x == x) (2 ^ n.toNat)) := by unfold closedSetsF; rw [ha]; rfl
    have hp := (pow_wrap (by omega) hn5).1
    obtain ⟨hp1, hp2, hp3⟩ := pow_nat (n := n) (by omega) hn5
    generalize hN : (2 : Nat) ^ n.toNat = N at *
    have HN : Hid ((N : Int) = 2 ^ n.toNat) := hp1
    have hp4 : wrap64 (2 ^ n.toNat) = N := by rw [hp, ← hp1]
    clear hp hp1 hN
    go_enter Try.func89, Try.ntmps89
    go_wp2_with (first | (go_at_call 66; refine Calls.mono (c_AreDeps _ _ _ _ _ (hD.keep hb)) ?_; rintro e w1 ⟨rfl, hbn⟩; replace hI := hI.keep hbn; replace hb := bel_to (w := w) (by first | exact hb | exact hb.alloc hb.size _ | exact (hb.alloc hb.size _).alloc (Nat.le_trans hb.size (by simp)) _ | exact hb.setCell (by simp [hb.size]) _) hbn; clear hbn))
    go_loopw [5, 6] (fun v i wr => ∃ k : Nat, i = .int .i64 k ∧ k ≤ N ∧ OwnI wr w.heap.size v (flt (fun x => cloF D x == x) k) ∧ Below w.heap.size w wr) (fun _ i _ => N - (intOf i).toNat)
    case atStart => exact ⟨0, rfl, Nat.zero_le _, hI, hb⟩
    case round =>
      clear hI hb
      obtain ⟨k, rfl, hk, hI, hb⟩ := hrel
      have HS : Hid (flt (fun x => cloF D x == x) (k + 1) = flt (fun x => cloF D x == x) k ++ (if cloF D k == k then [(k : Int)] else [])) := flt_succ _ k
      have hle := flt_le (fun x => cloF D x == x) k
      by_cases hlt : k < N
      · have hst : St (k : Int) := ⟨by omega, by omega⟩
        cases hh : (cloF D (k : Int) == k)
        · go_wp2_with (first | (go_at_call 70; refine Calls.mono (c_closure _ _ _ _ _ (hD.keep hb) hst hv) ?_; rintro e w1 ⟨rfl, hbn⟩; replace hI := hI.keep hbn; replace hb := bel_to (w := w) (by first | exact hb | exact hb.alloc hb.size _ | exact (hb.alloc hb.size _).alloc (Nat.le_trans hb.size (by simp)) _ | exact hb.setCell (by simp [hb.size]) _) hbn; clear hbn))
          go_roundw
          case rel => exact ⟨k + 1, by go_num, by omega, by rw [HS.out, hh]; simpa using hI, hb⟩
          case measure => simp [intOf]; omega
        · go_wp2_with (first | (go_at_call 70; refine Calls.mono (c_closure _ _ _ _ _ (hD.keep hb) hst hv) ?_; rintro e w1 ⟨rfl, hbn⟩; replace hI := hI.keep hbn; replace hb := bel_to (w := w) (by first | exact hb | exact hb.alloc hb.size _ | exact (hb.alloc hb.size _).alloc (Nat.le_trans hb.size (by simp)) _ | exact hb.setCell (by simp [hb.size]) _) hbn; clear hbn) | (at_builtin; refine wpList_append_own _ rfl _ _ 69 rfl w.heap.size 3 i0 (.int .i64 0) 1 8 Try.underlying69 hi hz0 hz1 hz2 rfl (by decide) _ _ _ rfl (World.ownsRow.alloc hI _) _ 1 1 [.int .i64 ((k : Int))] rfl rfl (by intro j u hj; match j, hj with | 0, hj => simp at hj; subst hj; simp [Addr.add]) (by intro u hu; simp at hu; subst hu; rfl) (by unfold maxLen; omega) (by omega) (by have := hb.size; simp; omega) ?_; intro v' w1 hown hgrow _; replace hb := (hb.alloc hb.size _).grown hgrow (by have := hb.size; simp; omega) (fun g hg => (World.ownsRow.lt hI g hg).1); replace hI := OwnI.snoc hown; clear hown hgrow))
          go_roundw
          case rel => exact ⟨k + 1, by go_num, by omega, by rw [HS.out, hh]; exact hI, hb⟩
          case measure => simp [intOf]; omega
      · have hkk : k = N := by omega
        have HK : Hid (k = N) := hkk
        clear hkk
        go_wp2
        go_ret
        exact ⟨_, rfl, by rw [HM.out, ← HK.out]; exact hI, hb⟩
set_option maxHeartbeats 400000 in
theorem c_specClosedSets (n : Int) (oa) (cap : Nat) (D : List (Int × Int)) (w : World) (hD : DepsAt w oa D) :
    Calls Try.prog 87 #[.int .i64 n, .slice oa D.length cap] w fun e w' => ∃ v, e = .returned v ∧ OwnI w' w.heap.size v (closedSetsF n D) ∧ Below w.heap.size w w' := by
  obtain ⟨i0, hi, hz0, hz1, hz2⟩ := info_parts info_int
  have hb := (Below.refl w.heap.size w).alloc (Nat.le_refl _) (.cells #[] 3)
  have hI := OwnI.empty w w.heap.size (Nat.le_refl _)
  cases ha : areDepsF n D
  · have HM : Hid (closedSetsF n D = []) := by unfold closedSetsF; rw [ha]; rfl
    go_enter Try.func87, Try.ntmps87
    go_wp2
    go_loopw [5, 6] (fun v i wr => i = .int .i64 0 ∧ OwnI wr w.heap.size v [] ∧ Below w.heap.size w wr) (fun _ i _ => 0)
    case atStart => exact ⟨rfl, hI, hb⟩
    case round =>
      clear hI hb
      obtain ⟨rfl, hI, hb⟩ := hrel
      go_wp2_with (first | (go_at_call 62; refine Calls.mono (c_specAreDeps _ _ _ _ _ (hD.keep hb)) ?_; rintro e w1 ⟨rfl, hbn⟩; replace hI := hI.keep hbn; replace hb := bel_to (w := w) (by first | exact hb | exact hb.alloc hb.size _ | exact (hb.alloc hb.size _).alloc (Nat.le_trans hb.size (by simp)) _ | exact hb.setCell (by simp [hb.size]) _) hbn; clear hbn))
      go_ret
      exact ⟨_, rfl, by rw [HM.out]; exact hI, hb⟩
  · obtain ⟨hv, hn1, hn5, _⟩ := areDepsF_val ha
    have HM : Hid (closedSetsF n D = flt (fun x => cloF D x == x) (2 ^ n.toNat)) := by unfold closedSetsF; rw [ha]; rfl
    have hn01 : 0 ≤ n ∧ n ≤ 5 := ⟨by omega, hn5⟩
    obtain ⟨hp1, hp2, hp3⟩ := pow_nat (n := n) (by omega) hn5
    generalize hN : (2 : Nat) ^ n.toNat = N at *
    have hAll : allM n = (N : Int) - 1 := by unfold allM; rw [← hp1]
    clear hp1 hN
    go_enter Try.func87, Try.ntmps87
    go_wp2
    go_loopw [5, 6] (fun v i wr => ∃ k : Nat, i = .int .i64 k ∧ k ≤ N ∧ OwnI wr w.heap.size v (flt (fun x => cloF D x == x) k) ∧ Below w.heap.size w wr) (fun _ i _ => N - (intOf i).toNat)
    case atStart => exact ⟨0, rfl, Nat.zero_le _, hI, hb⟩
    case round =>
      clear hI hb
      obtain ⟨k, rfl, hk, hI, hb⟩ := hrel
      have HS : Hid (flt (fun x => cloF D x == x) (k + 1) = flt (fun x => cloF D x == x) k ++ (if cloF D k == k then [(k : Int)] else [])) := flt_succ _ k
      have hle := flt_le (fun x => cloF D x == x) k
      by_cases hlt : k < N
      · have hst : St (k : Int) := ⟨by omega, by omega⟩
        have hd : decide ((k : Int) ≤ (N : Int) - 1) = true := by simp; omega
        cases hh : (cloF D (k : Int) == k)
        · go_wp2_with (first | (go_at_call 62; refine Calls.mono (c_specAreDeps _ _ _ _ _ (hD.keep hb)) ?_; rintro e w1 ⟨rfl, hbn⟩; replace hI := hI.keep hbn; replace hb := bel_to (w := w) (by first | exact hb | exact hb.alloc hb.size _ | exact (hb.alloc hb.size _).alloc (Nat.le_trans hb.size (by simp)) _ | exact hb.setCell (by simp [hb.size]) _) hbn; clear hbn) | (go_at_call 88; refine Calls.mono (c_l2All _ hn01 _) ?_; rintro e w1 ⟨rfl, hbn⟩; replace hI := hI.keep hbn; replace hb := bel_to (w := w) (by first | exact hb | exact hb.alloc hb.size _ | exact (hb.alloc hb.size _).alloc (Nat.le_trans hb.size (by simp)) _ | exact hb.setCell (by simp [hb.size]) _) hbn; clear hbn) | (go_at_call 65; refine Calls.mono (c_l10Close _ _ _ _ _ (hD.keep hb) hst hv) ?_; rintro e w1 ⟨rfl, hbn⟩; replace hI := hI.keep hbn; replace hb := bel_to (w := w) (by first | exact hb | exact hb.alloc hb.size _ | exact (hb.alloc hb.size _).alloc (Nat.le_trans hb.size (by simp)) _ | exact hb.setCell (by simp [hb.size]) _) hbn; clear hbn))
          go_roundw
          case rel => exact ⟨k + 1, by go_num, by omega, by rw [HS.out, hh]; simpa using hI, hb⟩
          case measure => simp [intOf]; omega
        · go_wp2_with (first | (go_at_call 62; refine Calls.mono (c_specAreDeps _ _ _ _ _ (hD.keep hb)) ?_; rintro e w1 ⟨rfl, hbn⟩; replace hI := hI.keep hbn; replace hb := bel_to (w := w) (by first | exact hb | exact hb.alloc hb.size _ | exact (hb.alloc hb.size _).alloc (Nat.le_trans hb.size (by simp)) _ | exact hb.setCell (by simp [hb.size]) _) hbn; clear hbn) | (go_at_call 88; refine Calls.mono (c_l2All _ hn01 _) ?_; rintro e w1 ⟨rfl, hbn⟩; replace hI := hI.keep hbn; replace hb := bel_to (w := w) (by first | exact hb | exact hb.alloc hb.size _ | exact (hb.alloc hb.size _).alloc (Nat.le_trans hb.size (by simp)) _ | exact hb.setCell (by simp [hb.size]) _) hbn; clear hbn) | (go_at_call 65; refine Calls.mono (c_l10Close _ _ _ _ _ (hD.keep hb) hst hv) ?_; rintro e w1 ⟨rfl, hbn⟩; replace hI := hI.keep hbn; replace hb := bel_to (w := w) (by first | exact hb | exact hb.alloc hb.size _ | exact (hb.alloc hb.size _).alloc (Nat.le_trans hb.size (by simp)) _ | exact hb.setCell (by simp [hb.size]) _) hbn; clear hbn) | (at_builtin; refine wpList_append_own _ rfl _ _ 69 rfl w.heap.size 3 i0 (.int .i64 0) 1 8 Try.underlying69 hi hz0 hz1 hz2 rfl (by decide) _ _ _ rfl (World.ownsRow.alloc hI _) _ 1 1 [.int .i64 ((k : Int))] rfl rfl (by intro j u hj; match j, hj with | 0, hj => simp at hj; subst hj; simp [Addr.add]) (by intro u hu; simp at hu; subst hu; rfl) (by unfold maxLen; omega) (by omega) (by have := hb.size; simp; omega) ?_; intro v' w1 hown hgrow _; replace hb := (hb.alloc hb.size _).grown hgrow (by have := hb.size; simp; omega) (fun g hg => (World.ownsRow.lt hI g hg).1); replace hI := OwnI.snoc hown; clear hown hgrow))
          go_roundw
          case rel => exact ⟨k + 1, by go_num, by omega, by rw [HS.out, hh]; exact hI, hb⟩
          case measure => simp [intOf]; omega
      · have hkk : k = N := by omega
        have HK : Hid (k = N) := hkk
        have hd : decide ((k : Int) ≤ (N : Int) - 1) = false := by simp; omega
        clear hkk
        go_wp2_with (first | (go_at_call 62; refine Calls.mono (c_specAreDeps _ _ _ _ _ (hD.keep hb)) ?_; rintro e w1 ⟨rfl, hbn⟩; replace hI := hI.keep hbn; replace hb := bel_to (w := w) (by first | exact hb | exact hb.alloc hb.size _ | exact (hb.alloc hb.size _).alloc (Nat.le_trans hb.size (by simp)) _ | exact hb.setCell (by simp [hb.size]) _) hbn; clear hbn) | (go_at_call 88; refine Calls.mono (c_l2All _ hn01 _) ?_; rintro e w1 ⟨rfl, hbn⟩; replace hI := hI.keep hbn; replace hb := bel_to (w := w) (by first | exact hb | exact hb.alloc hb.size _ | exact (hb.alloc hb.size _).alloc (Nat.le_trans hb.size (by simp)) _ | exact hb.setCell (by simp [hb.size]) _) hbn; clear hbn))
        go_ret
        exact ⟨_, rfl, by rw [HM.out, ← HK.out]; exact hI, hb⟩
theorem closedSets_len (n : Int) (D : List (Int × Int)) : (closedSetsF n D).length ≤ Room := by
  unfold closedSetsF
  split
  · next h =>
    obtain ⟨_, h1, h5, _⟩ := areDepsF_val h
    have h2 := flt_le (fun x => cloF D x == x) (2 ^ n.toNat)
    have h3 := (pow_nat (n := n) (by omega) h5).2.1
    unfold Room; omega
  · simp
end Go.Proofs.Ytkanbnbofoabeaa
