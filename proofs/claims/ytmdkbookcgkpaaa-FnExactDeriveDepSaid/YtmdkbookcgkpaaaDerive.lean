/- DeriveDep of the program. -/
import Derived.Test.YtmdkbookcgkpaaaDer
import Derived.Test.YtmdkbookcgkpaaaImplies
import Derived.Deep.AppendLies
namespace Go.Proofs.Ytmdkbookcgkpaaa
open Go.RowKit
set_option linter.unusedVariables false
set_option maxRecDepth 100000

/-- L is what a derivation lays down from the set x on, looking from place i on. -/
inductive Drv (D : List (Int × Int)) (r : Int) : Int → Nat → List T3 → Prop
  | done {x i} (h : hasc x r = true) : Drv D r x i []
  | stop {x i} (h : hasc x r = false) (hi : D.length ≤ i) : Drv D r x i []
  | take {x i L} (h : hasc x r = false) (hi : i < D.length) (ha : ins (nl D i) x = true) (hb : hasc x (nr D i) = false) (hL : Drv D r (uni x (one (nr D i))) 0 L) : Drv D r x i (((i : Int), x, uni x (one (nr D i))) :: L)
  | skip {x i L} (h : hasc x r = false) (hi : i < D.length) (ha : (ins (nl D i) x && !hasc x (nr D i)) = false) (hL : Drv D r x (i + 1) L) : Drv D r x i L
theorem Drv.same {D : List (Int × Int)} {r x : Int} {i : Nat} {L : List T3} (h : Drv D r x i L) : ∀ {M : List T3}, Drv D r x i M → L = M := by
  induction h with
  | done h => intro M hM; cases hM with
    | done => rfl
    | stop => rfl
    | take h' => rw [h] at h'; cases h'
    | skip h' => rw [h] at h'; cases h'
  | stop h hi => intro M hM; cases hM with
    | done => rfl
    | stop => rfl
    | take _ hi' => omega
    | skip _ hi' => omega
  | take h hi ha hb hL ih => intro M hM; cases hM with
    | done h' => rw [h] at h'; cases h'
    | stop _ hi' => omega
    | take _ _ _ _ hL' => rw [ih hL']
    | skip _ _ ha' => rw [ha, hb] at ha'; cases ha'
  | skip h hi ha hL ih => intro M hM; cases hM with
    | done h' => rw [h] at h'; cases h'
    | stop _ hi' => omega
    | take _ _ ha' hb' => rw [ha', hb'] at ha; cases ha
    | skip _ _ _ hL' => exact ih hL'
def Derives (n : Int) (D : List (Int × Int)) (l r : Int) (L : List T3) : Prop := (impliesDepF n D l r = true → Drv D r l 0 L) ∧ (impliesDepF n D l r = false → L = []) ∧ L.length ≤ 31
theorem Derives.same {n : Int} {D : List (Int × Int)} {l r : Int} {L M : List T3} (h : Derives n D l r L) (k : Derives n D l r M) : L = M := by
  cases e : impliesDepF n D l r with
  | false => rw [h.2.1 e, k.2.1 e]
  | true => exact (h.1 e).same (k.1 e)
theorem OwnT.joined {w : World} {base : Nat} {v : Value} {A B : List T3} (h : w.ownsRow base 73 3 v (A.length + B.length) (tcells A ++ tcells B)) : OwnT w base v (A ++ B) := by
  unfold OwnT
  rw [List.length_append, tcells_append]
  exact h
theorem OwnT.snoc {w : World} {base : Nat} {v : Value} {A : List T3} {a b c : Int} (h : w.ownsRow base 73 3 v (A.length + 1) (tcells A ++ [.int .i64 a, .int .i64 b, .int .i64 c])) : OwnT w base v (A ++ [(a, b, c)]) := OwnT.joined (B := [(a, b, c)]) h
theorem OwnT.nil (w : World) (base : Nat) : OwnT w base (.slice none 0 0) [] := ⟨rfl, Or.inl ⟨rfl, rfl⟩⟩
theorem OwnT.empty (w : World) (base : Nat) (hb : base ≤ w.heap.size) : OwnT (w.alloc (.cells #[] 73)) base (.slice (some ⟨w.heap.size, 0, none⟩) 0 0) [] := World.ownsRow_lit w #[] 0 hb (Nat.zero_le _) rfl
theorem OwnT.based {w : World} {base base' : Nat} {v : Value} {L : List T3} (h : OwnT w base v L) (hb : base' ≤ base) : OwnT w base' v L := owns_base h hb
theorem cell_alloc {w : World} {a : Addr} {v : Value} (h : w.cell? a = some v) (o : Obj) : (w.alloc o).cell? a = some v := cell_keep h ((Below.refl w.heap.size w).alloc (Nat.le_refl _) o)
theorem cell_grow {a b : World} {B base j e size n : Nat} {u v : Value} {xs : List Value} (hc : a.cell? ⟨B, j, none⟩ = some u) (hI : a.ownsRow base e size v n xs) (hB : B < base) (hg : a.grownBy b v.ownBlock) : b.cell? ⟨B, j, none⟩ = some u :=
  (hg.cell_far ⟨B, j, none⟩ (World.block_lt_of_cell? a _ hc) (fun e => by
    have := (World.ownsRow.lt hI B e.symm).1
    omega)).trans hc
end Go.Proofs.Ytmdkbookcgkpaaa
