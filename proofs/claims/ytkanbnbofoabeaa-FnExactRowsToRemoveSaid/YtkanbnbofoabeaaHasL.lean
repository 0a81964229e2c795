/- Whether an int is in a list, of the reference. -/
import Derived.Test.YtkanbnbofoabeaaMin
namespace Go.Proofs.Ytkanbnbofoabeaa
open Go.RowKit
set_option linter.unusedVariables false
set_option maxRecDepth 100000

theorem ones' (L : List Int) : ∀ u ∈ L.map encI, u.oneCell' = true := by
  intro u hu
  obtain ⟨x, _, rfl⟩ := List.mem_map.1 hu
  rfl
theorem c_l2Has (oa) (cap : Nat) (L : List Int) (x : Int) (w : World) (hL : IntsAt w oa L) :
    Ans Try.prog 104 #[.slice oa L.length cap, .int .i64 x] w (.bool (inB' L x)) := by
  unfold Ans
  have hn : L.length ≤ 1073741824 := hL.len
  go_enter Try.func104, Try.ntmps104
  go_wp2
  go_loop [5] (fun i => ∃ k : Nat, i = .int .i64 k ∧ k ≤ L.length ∧ (L.take k).all (fun y => !(y == x)) = true) (fun i => L.length - (intOf i).toNat)
  case atStart => exact ⟨0, rfl, Nat.zero_le _, by simp⟩
  case round =>
    obtain ⟨k, rfl, hk, hall⟩ := hrel
    have HA : Hid ((L.take k).all (fun y => !(y == x)) = true) := hall
    clear hall
    by_cases hlt : k < L.length
    · obtain ⟨b, off, rfl, hbs, hc⟩ := hL.at_ (by omega)
      have hc1 := hc k hlt
      have HT : Hid ((L.take (k + 1)).all (fun y => !(y == x)) = ((L.take k).all (fun y => !(y == x)) && !(nth L k == x))) := all_take_succ _ L k hlt
      have HM : Hid (nth L k ∈ L) := List.mem_iff_getElem?.2 ⟨k, nth_eq hlt⟩
      clear hc
      cases hst : (nth L k == x)
      · go_wp2
        go_round
        case rel => exact ⟨k + 1, by go_num, by omega, by rw [HT.out, HA.out, hst]; rfl⟩
        case measure => simp [intOf]; omega
      · have HE : Hid (nth L k = x) := by show nth L k = x; simpa using hst
        go_wp2
        go_ret
        exact ⟨ret_bool (by unfold inB'; rw [← HE.out]; simp [HM.out]), Below.refl _ _⟩
    · have hkk : k = L.length := by omega
      have HS : Hid (x ∉ L) := by
        have := HA.out; rw [hkk, List.take_length, List.all_eq_true] at this
        intro h; have := this x h; simp at this
      clear hkk
      go_wp2
      go_ret
      exact ⟨ret_bool (by unfold inB'; simp [HS.out]), Below.refl _ _⟩

end Go.Proofs.Ytkanbnbofoabeaa
