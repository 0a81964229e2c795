/- AgreeSets, of the program and of the reference. -/
import Derived.Test.YtkanbnbofoabeaaTab4
import Derived.Test.YtkanbnbofoabeaaHold
import Derived.Test.YtkanbnbofoabeaaMin4
namespace Go.Proofs.Ytkanbnbofoabeaa
open Go.RowKit
set_option linter.unusedVariables false
set_option maxRecDepth 100000

/-- x is the set in which two rows agree, the second of them before place i; or the second is i and the first before place j. -/
def agP (R : List (List Int)) (m : Int) (i j : Nat) (x : Int) : Prop := (∃ b, b < i ∧ ∃ a, a < b ∧ agreeF m (row R a) (row R b) = x) ∨ ∃ a, a < j ∧ agreeF m (row R a) (row R i) = x
/-- the same, first rows before place i; or the first is i and the second behind it and before place j -/
def agQ (R : List (List Int)) (m : Int) (i j : Nat) (x : Int) : Prop := (∃ a, a < i ∧ ∃ b, b < R.length ∧ a < b ∧ agreeF m (row R a) (row R b) = x) ∨ ∃ b, b < j ∧ i < b ∧ agreeF m (row R i) (row R b) = x
def agPB (R : List (List Int)) (m : Int) (i j : Nat) (x : Int) : Bool := ((List.range i).any fun b => (List.range b).any fun a => agreeF m (row R a) (row R b) == x) || (List.range j).any fun a => agreeF m (row R a) (row R i) == x
def agQB (R : List (List Int)) (m : Int) (i j : Nat) (x : Int) : Bool := ((List.range i).any fun a => (List.range R.length).any fun b => decide (a < b) && (agreeF m (row R a) (row R b) == x)) || (List.range j).any fun b => decide (i < b) && (agreeF m (row R i) (row R b) == x)
theorem agPB_iff {R : List (List Int)} {m : Int} {i j : Nat} {x : Int} : agPB R m i j x = true ↔ agP R m i j x := by
  unfold agPB agP
  simp [List.any_eq_true]
theorem agQB_iff {R : List (List Int)} {m : Int} {i j : Nat} {x : Int} : agQB R m i j x = true ↔ agQ R m i j x := by
  unfold agQB agQ
  simp [List.any_eq_true]
def agreeSetsF (n : Int) (R : List (List Int)) (m : Int) : List Int := if isTabF n R && modeF m then flt (agPB R m R.length 0) 32 else []
theorem eqCell_comm (m a b : Int) : eqCellF m a b = eqCellF m b a := by
  unfold eqCellF
  by_cases h : a = b
  · subst h; rfl
  · have h1 : (a == b) = false := by simpa using h
    have h2 : (b == a) = false := by simpa using (fun e : b = a => h e.symm)
    rw [h1, h2]; simp
theorem agree_comm {m : Int} {A B : List Int} (h : A.length = B.length) : agreeF m A B = agreeF m B A := by
  unfold agreeF
  rw [h]
  congr 1
  funext x c
  unfold agreeStep
  rw [eqCell_comm]
theorem agPB_step (R : List (List Int)) (m : Int) (i j : Nat) (hij : j < i) : (fun x => agPB R m i j x || x == agreeF m (row R j) (row R i)) = agPB R m i (j + 1) := by
  funext x
  rw [Bool.eq_iff_iff, Bool.or_eq_true, agPB_iff, agPB_iff]
  unfold agP
  constructor
  · rintro ((h | ⟨a, ha, e⟩) | e)
    · exact .inl h
    · exact .inr ⟨a, by omega, e⟩
    · exact .inr ⟨j, by omega, by simpa using (beq_iff_eq.1 e).symm⟩
  · rintro (h | ⟨a, ha, e⟩)
    · exact .inl (.inl h)
    · by_cases hj : a = j
      · subst hj; exact .inr (by simp [e])
      · exact .inl (.inr ⟨a, by omega, e⟩)
theorem agPB_next (R : List (List Int)) (m : Int) (i : Nat) : agPB R m i i = agPB R m (i + 1) 0 := by
  funext x
  rw [Bool.eq_iff_iff, agPB_iff, agPB_iff]
  unfold agP
  constructor
  · rintro (⟨b, hb, h⟩ | ⟨a, ha, e⟩)
    · exact .inl ⟨b, by omega, h⟩
    · exact .inl ⟨i, by omega, a, ha, e⟩
  · rintro (⟨b, hb, a, ha, e⟩ | ⟨a, ha, _⟩)
    · by_cases h : b = i
      · subst h; exact .inr ⟨a, ha, e⟩
      · exact .inl ⟨b, by omega, a, ha, e⟩
    · omega
theorem agQB_step (R : List (List Int)) (m : Int) (i j : Nat) (hij : i < j) : (fun x => agQB R m i j x || x == agreeF m (row R i) (row R j)) = agQB R m i (j + 1) := by
  funext x
  rw [Bool.eq_iff_iff, Bool.or_eq_true, agQB_iff, agQB_iff]
  unfold agQ
  constructor
  · rintro ((h | ⟨b, hb, hib, e⟩) | e)
    · exact .inl h
    · exact .inr ⟨b, by omega, hib, e⟩
    · exact .inr ⟨j, by omega, hij, by simpa using (beq_iff_eq.1 e).symm⟩
  · rintro (h | ⟨b, hb, hib, e⟩)
    · exact .inl (.inl h)
    · by_cases hj : b = j
      · subst hj; exact .inr (by simp [e])
      · exact .inl (.inr ⟨b, by omega, hib, e⟩)
theorem agQB_next (R : List (List Int)) (m : Int) (i : Nat) (hi : i < R.length) : agQB R m i R.length = agQB R m (i + 1) (i + 2) := by
  funext x
  rw [Bool.eq_iff_iff, agQB_iff, agQB_iff]
  unfold agQ
  constructor
  · rintro (⟨a, ha, h⟩ | ⟨b, hb, hib, e⟩)
    · exact .inl ⟨a, by omega, h⟩
    · exact .inl ⟨i, by omega, b, hb, hib, e⟩
  · rintro (⟨a, ha, b, hb, hab, e⟩ | ⟨b, hb, hib, _⟩)
    · by_cases h : a = i
      · subst h; exact .inr ⟨b, hb, hab, e⟩
      · exact .inl ⟨a, by omega, b, hb, hab, e⟩
    · omega
theorem agQB_first (R : List (List Int)) (m : Int) (i : Nat) : agQB R m i (i + 1) = agQB R m i 0 := by
  funext x
  rw [Bool.eq_iff_iff, agQB_iff, agQB_iff]
  unfold agQ
  constructor
  · rintro (h | ⟨b, hb, hib, _⟩)
    · exact .inl h
    · omega
  · rintro (h | ⟨b, hb, _⟩)
    · exact .inl h
    · omega
theorem agQB_all (R : List (List Int)) (m : Int) : agQB R m R.length 0 = agPB R m R.length 0 := by
  funext x
  rw [Bool.eq_iff_iff, agQB_iff, agPB_iff]
  unfold agQ agP
  constructor
  · rintro (⟨a, ha, b, hb, hab, e⟩ | ⟨b, hb, _⟩)
    · exact .inl ⟨b, hb, a, hab, e⟩
    · omega
  · rintro (⟨b, hb, a, ha, e⟩ | ⟨b, hb, _⟩)
    · exact .inl ⟨a, by omega, b, hb, ha, e⟩
    · omega
theorem agQB_none (R : List (List Int)) (m : Int) : flt (agQB R m 0 0) 32 = [] := by
  have : agQB R m 0 0 = fun _ => false := by
    funext x
    rw [Bool.eq_iff_iff, agQB_iff]
    unfold agQ
    constructor
    · rintro (⟨a, ha, _⟩ | ⟨b, hb, _⟩) <;> omega
    · intro h; cases h
  rw [this]; unfold flt; simp
/-- What the list holds, as it grows. -/
def AgL (R : List (List Int)) (m : Int) (i j : Nat) (L : List Int) : Prop := (∀ x, x ∈ L ↔ agP R m i j x) ∧ (∀ x ∈ L, St x) ∧ L.length ≤ 40 * i + j
theorem AgL.none (R : List (List Int)) (m : Int) : AgL R m 0 0 [] := by
  refine ⟨fun x => ⟨fun h => (by cases h), fun h => ?_⟩, fun x hx => (by cases hx), Nat.zero_le _⟩
  unfold agP at h
  rcases h with ⟨b, hb, _⟩ | ⟨a, ha, _⟩
  · omega
  · omega
theorem AgL.distinct {R : List (List Int)} {m : Int} {L : List Int} (h : AgL R m R.length 0 L) : distinctF L = flt (agPB R m R.length 0) 32 := by
  rw [distinctF_flt h.2.1]
  congr 1
  funext x
  rw [Bool.eq_iff_iff, agPB_iff, ← h.1]
  unfold inB'
  simp
theorem AgL.snoc {R : List (List Int)} {m : Int} {i j : Nat} {L : List Int} (h : AgL R m i j L) (hij : j < i) {x : Int} (hx : x = agreeF m (row R j) (row R i)) (hs : St x) : AgL R m i (j + 1) (L ++ [x]) := by
  refine ⟨fun y => ?_, fun y hy => ?_, by simp; have := h.2.2; omega⟩
  · have e := congrFun (agPB_step R m i j hij) y
    rw [List.mem_append, List.mem_singleton, h.1, ← agPB_iff (j := j + 1), ← e, Bool.or_eq_true, agPB_iff, hx]
    simp
  · rcases List.mem_append.1 hy with hy | hy
    · exact h.2.1 y hy
    · simp at hy; subst hy; exact hs
theorem AgL.next {R : List (List Int)} {m : Int} {i : Nat} {L : List Int} (h : AgL R m i i L) (hi : i ≤ 40) : AgL R m (i + 1) 0 L := by
  refine ⟨fun y => ?_, h.2.1, by have := h.2.2; omega⟩
  have e := congrFun (agPB_next R m i) y
  rw [h.1, ← agPB_iff, e, agPB_iff]
theorem agreeSets_st {n : Int} {R : List (List Int)} {m : Int} : ∀ x ∈ agreeSetsF n R m, St x := by
  unfold agreeSetsF
  split
  · intro x hx; have := (flt_mem.1 hx).1; exact ⟨by omega, by omega⟩
  · intro x hx; cases hx
theorem agreeSets_len (n : Int) (R : List (List Int)) (m : Int) : (agreeSetsF n R m).length ≤ 32 := by
  unfold agreeSetsF
  split
  · exact flt_le _ _
  · simp
end Go.Proofs.Ytkanbnbofoabeaa
