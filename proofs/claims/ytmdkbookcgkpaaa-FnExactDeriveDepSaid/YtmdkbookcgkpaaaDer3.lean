/- Marks of derivation steps. -/
import Derived.Test.YtmdkbookcgkpaaaDer2
namespace Go.Proofs.Ytmdkbookcgkpaaa
open Go.RowKit
set_option linter.unusedVariables false
set_option maxRecDepth 100000

def seqT (k : Int) (n : Nat) : List T3 := (List.range n).map fun (i : Nat) => (k + 3 * i, k + 3 * i + 1, k + 3 * i + 2)
theorem seqT_length (k : Int) (n : Nat) : (seqT k n).length = n := by simp [seqT]
theorem seqT_at (k : Int) (n j : Nat) (h : j < n) : ta (seqT k n) j = k + 3 * j ∧ tb (seqT k n) j = k + 3 * j + 1 ∧ tc (seqT k n) j = k + 3 * j + 2 := by simp [ta, tb, tc, seqT, List.getD, h]
theorem OwnT.far {w w' : World} {base : Nat} {v v' : Value} {L : List T3} (h : OwnT w base v L) (hg : w.grownBy w' v'.ownBlock) (ha : Apart v v') : OwnT w' base v L := World.ownsRow.kept h hg ha

set_option maxHeartbeats 800000 in
theorem c_markDerivedS (oa) (cap base : Nat) (L : List T3) (k0 : Int) (hk0 : 0 ≤ k0 ∧ k0 ≤ 1073741824) (w : World) (hL : L.length ≤ Room) (h : OwnT w base (.slice oa L.length cap) L) :
    Calls Try.prog 48 #[.slice oa L.length cap, .int .i64 k0] w fun e w' => e = .returned (.int .i64 (k0 + 3 * L.length)) ∧ OwnT w' base (.slice oa L.length cap) (seqT k0 L.length) ∧ w.grownBy w' (Value.slice oa L.length cap).ownBlock := by
  unfold Room at hL
  obtain ⟨h01, h02⟩ := hk0
  rcases oa with _ | ⟨g, off, sp⟩
  · have h0 : L.length = 0 := by
      rcases h.2 with ⟨hv, hn⟩ | ⟨g, c, cur, hv, _⟩
      · exact hn
      · cases hv
    have hnil : L = [] := List.eq_nil_of_length_eq_zero h0
    subst hnil
    go_enter Try.func48, Try.ntmps48
    go_wp2
    go_loop [1, 5] (fun k i => k = .int .i64 k0 ∧ i = .int .i64 0) (fun _ _ => 0)
    case atStart => exact ⟨rfl, rfl⟩
    case round =>
      obtain ⟨rfl, rfl⟩ := hrel
      go_wp2
      go_ret
      exact ⟨ret_int (by simp), by simpa [seqT] using h, grown_refl _ _⟩
  · have hsh : off = 0 ∧ sp = none := by
      rcases h.2 with ⟨hv, _⟩ | ⟨g', c, cur, hv, _⟩
      · cases hv
      · simp only [Value.slice.injEq, Option.some.injEq, Addr.mk.injEq] at hv; exact ⟨hv.1.2.1, hv.1.2.2⟩
    obtain ⟨rfl, rfl⟩ := hsh
    go_enter Try.func48, Try.ntmps48
    go_wp2
    go_loopw [1, 5] (fun k i wr => ∃ (j : Nat) (M : List T3), k = .int .i64 (k0 + 3 * j) ∧ i = .int .i64 j ∧ j ≤ L.length ∧ M.length = L.length ∧ (∀ t, t < j → ta M t = k0 + 3 * t ∧ tb M t = k0 + 3 * t + 1 ∧ tc M t = k0 + 3 * t + 2) ∧
      OwnT wr base (.slice (some ⟨g, 0, none⟩) L.length cap) M ∧ w.grownBy wr (some g)) (fun _ i _ => L.length - (intOf i).toNat)
    case atStart => exact ⟨0, L, by simp, rfl, Nat.zero_le _, rfl, fun t ht => absurd ht (by omega), h, grown_refl _ _⟩
    case round =>
      obtain ⟨j, M, rfl, rfl, hj, hM, hall, hI, hg⟩ := hrel
      have HM : Hid (M.length = L.length) := hM
      have HA : Hid (∀ t, t < j → ta M t = k0 + 3 * t ∧ tb M t = k0 + 3 * t + 1 ∧ tc M t = k0 + 3 * t + 2) := hall
      clear hM hall
      by_cases hlt : j < L.length
      · obtain ⟨⟨hg1, hg2, hg3⟩, hf1, hf2, hf3⟩ := hI.cell HM.out.symm j hlt
        have HI2 := (show Hid _ from hI.store HM.out.symm j (k0 + 3 * j) (k0 + 3 * j + 1) (k0 + 3 * j + 2))
        have HG2 := (show Hid _ from grown_trans (grown_trans (grown_trans hg (grown_set _ g (j * 3) (.int .i64 (k0 + 3 * j)))) (grown_set _ g (j * 3 + 1) (.int .i64 (k0 + 3 * j + 1)))) (grown_set _ g (j * 3 + 2) (.int .i64 (k0 + 3 * j + 2))))
        clear hI hg h
        go_wp2
        go_roundw
        case rel =>
          refine ⟨j + 1, M.set j (k0 + 3 * j, k0 + 3 * j + 1, k0 + 3 * j + 2), by go_num, by go_num, by omega, by rw [List.length_set]; exact HM.out, ?_, by (first | exact HI2.out | (rw [show (k0 + 3 * (j : Int) + 1 + 1) = k0 + 3 * (j : Int) + 2 by omega]; exact HI2.out)), by (first | exact HG2.out | (rw [show (k0 + 3 * (j : Int) + 1 + 1) = k0 + 3 * (j : Int) + 2 by omega]; exact HG2.out))⟩
          intro t ht
          have hs := t_set (L := M) (j := j) (k := t) (x := (k0 + 3 * (j : Int), k0 + 3 * (j : Int) + 1, k0 + 3 * (j : Int) + 2)) (by have := HM.out; omega)
          rw [hs.1, hs.2.1, hs.2.2]
          by_cases e : t = j
          · subst e; simp
          · rw [if_neg e, if_neg e, if_neg e]; exact HA.out t (by omega)
        case measure => simp [intOf]; omega
      · have hjj : j = L.length := by omega
        have HJ : Hid (j = L.length) := hjj
        have HV : Hid (M = seqT k0 L.length) := by
          refine tlist_ext (by rw [seqT_length]; exact HM.out) fun t ht => ?_
          have h1 := HM.out
          have h2 := seqT_at k0 L.length t (by omega)
          rw [h2.1, h2.2.1, h2.2.2]
          exact HA.out t (by omega)
        clear hjj
        go_wp2
        go_ret
        exact ⟨ret_int (by have := HJ.out; omega), by rw [← HV.out]; exact hI, hg⟩

theorem c_heldDerivedS (oa) (cap : Nat) (n : Nat) (k0 : Int) (hk0 : 0 ≤ k0 ∧ k0 ≤ 1073741824) (w : World) (h : DersAt w oa (seqT k0 n)) :
    Ans Try.prog 49 #[.slice oa n cap, .int .i64 k0] w (.int .i64 (k0 + 3 * n)) := by
  unfold Ans
  obtain ⟨h01, h02⟩ := hk0
  have hn : n ≤ 1073741824 := by have := h.len; rw [seqT_length] at this; exact this
  go_enter Try.func49, Try.ntmps49
  go_wp2
  go_loop [1, 5] (fun k i => ∃ j : Nat, k = .int .i64 (k0 + 3 * j) ∧ i = .int .i64 j ∧ j ≤ n) (fun _ i => n - (intOf i).toNat)
  case atStart => exact ⟨0, by simp, rfl, Nat.zero_le _⟩
  case round =>
    obtain ⟨j, rfl, rfl, hj⟩ := hrel
    by_cases hlt : j < n
    · obtain ⟨b, off, rfl, hbs, hc⟩ := h.at_ (by rw [seqT_length]; omega)
      obtain ⟨hc1, hc2, hc3⟩ := hc j (by rw [seqT_length]; omega)
      have hs := seqT_at k0 n j hlt
      rw [hs.1] at hc1
      rw [hs.2.1] at hc2
      rw [hs.2.2] at hc3
      have hne : (k0 + 3 * (j : Int) != k0 + 3 * j) = false := by simp
      have hne2 : (k0 + 3 * (j : Int) + 1 != k0 + 3 * j + 1) = false := by simp
      have hne3 : (k0 + 3 * (j : Int) + 2 != k0 + 3 * j + 2) = false := by simp
      have hne4 : (k0 + 3 * (j : Int) + 2 != k0 + 3 * j + 1 + 1) = false := by simp; omega
      clear hc h hs
      go_wp2
      go_round
      case rel => exact ⟨j + 1, by go_num, by go_num, by omega⟩
      case measure => simp [intOf]; omega
    · have hjj : j = n := by omega
      have HJ : Hid (j = n) := hjj
      clear hjj
      go_wp2
      go_ret
      exact ⟨ret_int (by rw [HJ.out]), Below.refl _ _⟩
end Go.Proofs.Ytmdkbookcgkpaaa
