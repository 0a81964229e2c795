/- Members, of the program. -/
import Derived.Test.YtjgfndbgenhjbaaBasic
import Derived.Test.YtjgfndbgenhjbaaOwn
namespace Go.Proofs.Ytjgfndbgenhjbaa
open Go.RowKit
set_option linter.unusedVariables false
set_option maxRecDepth 100000

def membersUpTo (x : Int) (k : Nat) : List Int := ((List.range k).map fun (c : Nat) => (c : Int)).filter (hasc x)
def membersF (x : Int) : List Int := if stB x then membersUpTo x 5 else []
theorem membersUpTo_succ (x : Int) (k : Nat) : membersUpTo x (k + 1) = membersUpTo x k ++ (if hasc x k then [(k : Int)] else []) := by
  unfold membersUpTo
  rw [List.range_succ, List.map_append, List.filter_append]
  simp [List.filter_cons]
theorem membersUpTo_le (x : Int) (k : Nat) : (membersUpTo x k).length ≤ k := by
  have := List.length_filter_le (hasc x) ((List.range k).map fun (c : Nat) => (c : Int))
  simpa [membersUpTo] using this
theorem members_co {x : Int} : ∀ c ∈ membersF x, Co c ∧ hasc x c = true := by
  intro c hc
  unfold membersF at hc
  split at hc
  · unfold membersUpTo at hc
    obtain ⟨h1, h2⟩ := List.mem_filter.1 hc
    obtain ⟨k, hk, rfl⟩ := List.mem_map.1 h1
    have := List.mem_range.1 hk
    exact ⟨⟨by omega, by omega⟩, h2⟩
  · cases hc
theorem members_len (x : Int) : (membersF x).length ≤ 5 := by
  unfold membersF
  split
  · exact membersUpTo_le x 5
  · simp
theorem OwnI.nil (w : World) (base : Nat) : OwnI w base (.slice none 0 0) [] := World.ownsRow_nil _ _ _ _
theorem OwnI.empty (w : World) (base : Nat) (hb : base ≤ w.heap.size) : OwnI (w.alloc (.cells #[] 3)) base (.slice (some ⟨w.heap.size, 0, none⟩) 0 0) [] :=
  World.ownsRow_lit w #[] 0 hb (Nat.zero_le _) rfl
theorem encI_snoc (L : List Int) (x : Int) : (L ++ [x]).map encI = L.map encI ++ [.int .i64 x] := by simp [encI]
theorem OwnI.snoc {w : World} {base : Nat} {v : Value} {L : List Int} {x : Int} (h : w.ownsRow base 3 1 v (L.length + 1) (L.map encI ++ [.int .i64 x])) : OwnI w base v (L ++ [x]) := by
  unfold OwnI
  rw [List.length_append, encI_snoc]
  exact h

theorem c_Members (x : Int) (w : World) :
    Calls Try.prog 83 #[.int .i64 x] w fun e w' => ∃ v, e = .returned v ∧ OwnI w' w.heap.size v (membersF x) ∧ Below w.heap.size w w' := by
  obtain ⟨i0, hi, hz0, hz1, hz2⟩ := info_parts info_int
  cases hst : stB x
  · have HM : Hid (membersF x = []) := by unfold membersF; rw [hst]; rfl
    go_enter Try.func83, Try.ntmps83
    go_wp2
    go_loopw [3, 4] (fun v i wr => i = .int .i64 0 ∧ OwnI wr w.heap.size v [] ∧ Below w.heap.size w wr) (fun _ _ _ => 0)
    case atStart => exact ⟨rfl, OwnI.empty _ _ (Nat.le_refl _), (Below.refl _ _).alloc (Nat.le_refl _) _⟩
    case round =>
      obtain ⟨rfl, hI, hb⟩ := hrel
      go_wp2_with (first | (go_at_call 103; refine Calls.mono (c_isSet _ _) ?_; rintro e w1 ⟨rfl, hbn⟩; replace hI := hI.keep hbn; replace hb := bel_to (w := w) (by first | exact hb | exact hb.alloc hb.size _ | exact (hb.alloc hb.size _).alloc (Nat.le_trans hb.size (by simp)) _ | exact hb.setCell (by simp [hb.size]) _) hbn; clear hbn))
      go_ret
      exact ⟨_, rfl, by rw [HM.out]; exact hI, hb⟩
  · have HM : Hid (membersF x = membersUpTo x 5) := by unfold membersF; rw [hst]; rfl
    have hsx : St x := by simpa [stB] using hst
    go_enter Try.func83, Try.ntmps83
    go_wp2
    go_loopw [3, 4] (fun v i wr => ∃ k : Nat, i = .int .i64 k ∧ k ≤ 5 ∧ OwnI wr w.heap.size v (membersUpTo x k) ∧ Below w.heap.size w wr) (fun _ i _ => 5 - (intOf i).toNat)
    case atStart => exact ⟨0, rfl, Nat.zero_le _, OwnI.empty _ _ (Nat.le_refl _), (Below.refl _ _).alloc (Nat.le_refl _) _⟩
    case round =>
      obtain ⟨k, rfl, hk, hI, hb⟩ := hrel
      have HS := membersUpTo_succ x k
      have hle := membersUpTo_le x k
      have HS2 : Hid (membersUpTo x (k + 1) = membersUpTo x k ++ (if hasc x k then [(k : Int)] else [])) := HS
      clear HS
      by_cases hlt : k < 5
      · have hk64 : 0 ≤ (k : Int) ∧ (k : Int) < 64 := by omega
        cases hh : hasc x k
        · go_wp2_with (first | (go_at_call 103; refine Calls.mono (c_isSet _ _) ?_; rintro e w1 ⟨rfl, hbn⟩; replace hI := hI.keep hbn; replace hb := bel_to (w := w) (by first | exact hb | exact hb.alloc hb.size _ | exact (hb.alloc hb.size _).alloc (Nat.le_trans hb.size (by simp)) _ | exact hb.setCell (by simp [hb.size]) _) hbn; clear hbn) | (go_at_call 82; refine Calls.mono (c_has _ _ hk64 _) ?_; rintro e w1 ⟨rfl, hbn⟩; replace hI := hI.keep hbn; replace hb := bel_to (w := w) (by first | exact hb | exact hb.alloc hb.size _ | exact (hb.alloc hb.size _).alloc (Nat.le_trans hb.size (by simp)) _ | exact hb.setCell (by simp [hb.size]) _) hbn; clear hbn))
          go_roundw
          case rel => exact ⟨k + 1, by go_num, by omega, by rw [HS2.out, hh]; simpa using hI, hb⟩
          case measure => simp [intOf]; omega
        · go_wp2_with (first | (go_at_call 103; refine Calls.mono (c_isSet _ _) ?_; rintro e w1 ⟨rfl, hbn⟩; replace hI := hI.keep hbn; replace hb := bel_to (w := w) (by first | exact hb | exact hb.alloc hb.size _ | exact (hb.alloc hb.size _).alloc (Nat.le_trans hb.size (by simp)) _ | exact hb.setCell (by simp [hb.size]) _) hbn; clear hbn) | (go_at_call 82; refine Calls.mono (c_has _ _ hk64 _) ?_; rintro e w1 ⟨rfl, hbn⟩; replace hI := hI.keep hbn; replace hb := bel_to (w := w) (by first | exact hb | exact hb.alloc hb.size _ | exact (hb.alloc hb.size _).alloc (Nat.le_trans hb.size (by simp)) _ | exact hb.setCell (by simp [hb.size]) _) hbn; clear hbn) | (at_builtin; refine wpList_append_own _ rfl _ _ 60 rfl w.heap.size 3 i0 (.int .i64 0) 1 8 Try.underlying60 hi hz0 hz1 hz2 rfl (by decide) _ _ _ rfl (World.ownsRow.alloc hI _) _ 1 1 [.int .i64 ((k : Int))] rfl rfl (by intro j u hj; match j, hj with | 0, hj => simp at hj; subst hj; simp [Addr.add]) (by intro u hu; simp at hu; subst hu; rfl) (by unfold maxLen; omega) (by omega) (by have := hb.size; simp; omega) ?_; intro v' w1 hown hgrow _; replace hb := (hb.alloc hb.size _).grown hgrow (by have := hb.size; simp; omega) (fun g hg => (World.ownsRow.lt hI g hg).1); replace hI := OwnI.snoc hown; clear hown hgrow))
          go_roundw
          case rel => exact ⟨k + 1, by go_num, by omega, by rw [HS2.out, hh]; exact hI, hb⟩
          case measure => simp [intOf]; omega
      · have hkk : k = 5 := by omega
        have HK : Hid (k = 5) := hkk
        clear hkk
        go_wp2_with (first | (go_at_call 103; refine Calls.mono (c_isSet _ _) ?_; rintro e w1 ⟨rfl, hbn⟩; replace hI := hI.keep hbn; replace hb := bel_to (w := w) (by first | exact hb | exact hb.alloc hb.size _ | exact (hb.alloc hb.size _).alloc (Nat.le_trans hb.size (by simp)) _ | exact hb.setCell (by simp [hb.size]) _) hbn; clear hbn))
        go_ret
        exact ⟨_, rfl, by rw [HM.out, ← HK.out]; exact hI, hb⟩
end Go.Proofs.Ytjgfndbgenhjbaa
