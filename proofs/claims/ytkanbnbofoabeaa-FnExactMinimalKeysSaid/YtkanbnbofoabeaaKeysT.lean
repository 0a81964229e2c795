/- KeysByTransversals, of the program and of the reference. -/
import Derived.Test.YtkanbnbofoabeaaAgree2
import Derived.Test.YtkanbnbofoabeaaTrans2
namespace Go.Proofs.Ytkanbnbofoabeaa
open Go.RowKit
set_option linter.unusedVariables false
set_option maxRecDepth 100000

def edgesF (n : Int) (L : List Int) : List Int := L.map (dif (allM n))
def keysTF (n : Int) (R : List (List Int)) (m : Int) : List Int := if isTabF n R && modeF m then transF (edgesF n (agreeSetsF n R m)) n else []
theorem keysT_len (n : Int) (R : List (List Int)) (m : Int) : (keysTF n R m).length ≤ Room := by
  unfold keysTF
  split
  · exact transF_len _ _
  · simp
theorem edges_succ {n : Int} {L : List Int} {k : Nat} (h : k < L.length) : edgesF n (L.take (k + 1)) = edgesF n (L.take k) ++ [dif (allM n) (nth L k)] := map_take_succ (f := dif (allM n)) h
theorem empty_behind {w' : World} {B j : Nat} {v : Value} (h : w'.cell? ⟨B, j, none⟩ = some v) : OwnI (w'.alloc (.cells #[] 3)) (B + 1) (.slice (some ⟨w'.heap.size, 0, none⟩) 0 0) [] := OwnI.empty _ _ (World.block_lt_of_cell? _ _ h)
end Go.Proofs.Ytkanbnbofoabeaa
