/- Members, of the program. -/
import Derived.Test.YtkanbnbofoabeaaBasic
import Derived.Test.YtkanbnbofoabeaaOwn
namespace Go.Proofs.Ytkanbnbofoabeaa
open Go.RowKit
set_option linter.unusedVariables false
set_option maxRecDepth 100000

def membersUpTo (x : Int) (k : Nat) : List Int := ((List.range k).map fun (c : Nat) => (c : Int)).filter (hasc x)
def membersF (x : Int) : List Int := if stB x then membersUpTo x 5 else []
theorem membersUpTo_succ (x : Int) (k : Nat) : membersUpTo x (k + 1) = membersUpTo x k ++ (if hasc x k then [(k : Int)] else []) := by
  unfold membersUpTo
  rw [List.range_succ, List.map_append, List.filter_append]
  simp [List.filter_cons]
theorem membersUpTo_le (x : Int) (k : Nat) : (membersUpTo x k).length ≤ k := by
  have := List.length_filter_le (hasc x) ((List.range k).map fun (c : Nat) => (c : Int))
  simpa [membersUpTo] using this
theorem members_co {x : Int} : ∀ c ∈ membersF x, Co c ∧ hasc x c = true := by
  intro c hc
  unfold membersF at hc
  split at hc
  · unfold membersUpTo at hc
    obtain ⟨h1, h2⟩ := List.mem_filter.1 hc
    obtain ⟨k, hk, rfl⟩ := List.mem_map.1 h1
    have := List.mem_range.1 hk
    exact ⟨⟨by omega, by omega⟩, h2⟩
  · cases hc
theorem members_len (x : Int) : (membersF x).length ≤ 5 := by
  unfold membersF
  split
  · exact membersUpTo_le x 5
  · simp
theorem OwnI.nil (w : World) (base : Nat) : OwnI w base (.slice none 0 0) [] := World.ownsRow_nil _ _ _ _
theorem OwnI.empty (w : World) (base : Nat) (hb : base ≤ w.heap.size) : OwnI (w.alloc (.cells #[] 3)) base (.slice (some ⟨w.heap.size, 0, none⟩) 0 0) [] :=
  World.ownsRow_lit w #[] 0 hb (Nat.zero_le _) rfl
theorem encI_snoc (L : List Int) (x : Int) : (L ++ [x]).map encI = L.map encI ++ [.int .i64 x] := by simp [encI]
theorem OwnI.snoc {w : World} {base : Nat} {v : Value} {L : List Int} {x : Int} (h : w.ownsRow base 3 1 v (L.length + 1) (L.map encI ++ [.int .i64 x])) : OwnI w base v (L ++ [x]) := by
  unfold OwnI
  rw [List.length_append, encI_snoc]
  exact h

end Go.Proofs.Ytkanbnbofoabeaa
