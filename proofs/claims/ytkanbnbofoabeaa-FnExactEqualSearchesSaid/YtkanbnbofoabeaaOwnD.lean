/- Slices of dependencies that the call itself made. -/
import Derived.Test.YtkanbnbofoabeaaOwn
import Derived.Test.YtkanbnbofoabeaaDeps
namespace Go.Proofs.Ytkanbnbofoabeaa
open Go.RowKit
set_option linter.unusedVariables false
set_option maxRecDepth 100000

def encD (d : Int × Int) : List Value := [.int .i64 d.1, .int .i64 d.2]
def dcells (D : List (Int × Int)) : List Value := D.flatMap encD
theorem dcells_length : ∀ D : List (Int × Int), (dcells D).length = D.length * 2
  | [] => rfl
  | d :: D => by
    have := dcells_length D
    simp only [dcells, List.flatMap_cons, List.length_append, List.length_cons] at this ⊢
    rw [this]; simp [encD]; omega
theorem dcells_cons (d : Int × Int) (D : List (Int × Int)) : dcells (d :: D) = .int .i64 d.1 :: .int .i64 d.2 :: dcells D := rfl
theorem dcells_append (D E : List (Int × Int)) : dcells (D ++ E) = dcells D ++ dcells E := by simp [dcells]
theorem dcells_at : ∀ (D : List (Int × Int)) (k : Nat), k < D.length → (dcells D)[k * 2]? = some (.int .i64 (nl D k)) ∧ (dcells D)[k * 2 + 1]? = some (.int .i64 (nr D k))
  | [], k, h => absurd h (by simp)
  | d :: D, 0, _ => ⟨rfl, rfl⟩
  | d :: D, k + 1, h => by
    have := dcells_at D k (by simpa using h)
    rw [dcells_cons, show (k + 1) * 2 = k * 2 + 1 + 1 by omega, show k * 2 + 1 + 1 + 1 = (k * 2 + 1) + 1 + 1 by omega]
    simp only [List.getElem?_cons_succ]
    exact this
theorem dcells_set : ∀ (D : List (Int × Int)) (k : Nat) (d : Int × Int), ((dcells D).set (k * 2) (.int .i64 d.1)).set (k * 2 + 1) (.int .i64 d.2) = dcells (D.set k d)
  | [], k, d => by simp [dcells]
  | e :: D, 0, d => rfl
  | e :: D, k + 1, d => by
    have := dcells_set D k d
    rw [List.set_cons_succ, dcells_cons, dcells_cons, show (k + 1) * 2 = k * 2 + 1 + 1 by omega, show k * 2 + 1 + 1 + 1 = (k * 2 + 1) + 1 + 1 by omega]
    simp only [List.set_cons_succ]
    rw [this]
theorem nl_set {L : List (Int × Int)} {j k : Nat} {x : Int × Int} (hj : j < L.length) : nl (L.set j x) k = if k = j then x.1 else nl L k := by
  unfold nl List.getD
  rw [List.getElem?_set]
  by_cases h : j = k
  · subst h; simp [hj]
  · rw [if_neg h, if_neg (by omega)]
theorem nr_set {L : List (Int × Int)} {j k : Nat} {x : Int × Int} (hj : j < L.length) : nr (L.set j x) k = if k = j then x.2 else nr L k := by
  unfold nr List.getD
  rw [List.getElem?_set]
  by_cases h : j = k
  · subst h; simp [hj]
  · rw [if_neg h, if_neg (by omega)]

/-- 'v' is a slice of dependencies of the call's own (made from block 'base' on) that reads as D. -/
def OwnD (w : World) (base : Nat) (v : Value) (D : List (Int × Int)) : Prop := w.ownsRow base 33 2 v D.length (dcells D)
theorem OwnD.keep {w w' : World} {base : Nat} {v : Value} {D : List (Int × Int)} (h : OwnD w base v D) (hb : Below w.heap.size w w') : OwnD w' base v D := owns_keep h hb
theorem OwnD.reads {w : World} {base : Nat} {v : Value} {D : List (Int × Int)} (h : OwnD w base v D) (hl : D.length ≤ Room) :
    ∃ oa cap, v = .slice oa D.length cap ∧ DepsAt w oa D := by
  obtain ⟨oa, cap, hv, hc⟩ := owns_cells h
  refine ⟨oa, cap, hv, hl, fun h0 => ?_⟩
  obtain ⟨g, ha, hbg, hlt, _, hcell, _⟩ := hc h0
  refine ⟨g, 0, ha, hlt, fun k hk => ?_⟩
  rw [Nat.zero_add, hcell (k * 2) (by omega), hcell (k * 2 + 1) (by omega)]
  exact dcells_at D k hk
theorem OwnD.cell {w : World} {base g : Nat} {n cap : Nat} {D : List (Int × Int)} (h : OwnD w base (.slice (some ⟨g, 0, none⟩) n cap) D) (hn : n = D.length) (k : Nat) (hk : k < n) :
    w.cell? ⟨g, k * 2, none⟩ = some (.int .i64 (nl D k)) ∧ w.cell? ⟨g, k * 2 + 1, none⟩ = some (.int .i64 (nr D k)) ∧ w.frozen? ⟨g, k * 2, none⟩ = false ∧ w.frozen? ⟨g, k * 2 + 1, none⟩ = false := by
  subst hn
  refine ⟨?_, ?_, h.frozenAt _, h.frozenAt _⟩
  · rw [h.cellAt (k * 2) (by omega)]; exact (dcells_at D k hk).1
  · rw [h.cellAt (k * 2 + 1) (by omega)]; exact (dcells_at D k hk).2
theorem OwnD.store {w : World} {base g : Nat} {n cap : Nat} {D : List (Int × Int)} (h : OwnD w base (.slice (some ⟨g, 0, none⟩) n cap) D) (hn : n = D.length) (k : Nat) (l r : Int) :
    OwnD ((w.setCell ⟨g, k * 2, none⟩ (.int .i64 l)).setCell ⟨g, k * 2 + 1, none⟩ (.int .i64 r)) base (.slice (some ⟨g, 0, none⟩) n cap) (D.set k (l, r)) := by
  subst hn
  have := ((h.stored (k * 2) (.int .i64 l)).1.stored (k * 2 + 1) (.int .i64 r)).1
  unfold OwnD
  rw [List.length_set, ← dcells_set]
  exact this
theorem madeD (n : Nat) : (madeCells (Value.cells (.agg #[.int .i64 0, .int .i64 0])) (n * 2)).toList = dcells (List.replicate n (0, 0)) := by
  apply List.ext_getElem?
  intro j
  have hl : (dcells (List.replicate n (0, 0))).length = n * 2 := by rw [dcells_length]; simp
  by_cases hj : j < n * 2
  · have h2 : j / 2 < (List.replicate n ((0 : Int), (0 : Int))).length := by simp; omega
    have hd := dcells_at _ _ h2
    have z : nl (List.replicate n (0, 0)) (j / 2) = 0 ∧ nr (List.replicate n (0, 0)) (j / 2) = 0 := by
      simp only [List.length_replicate] at h2
      unfold nl nr List.getD
      rw [List.getElem?_replicate, if_pos h2]; exact ⟨rfl, rfl⟩
    rw [z.1, z.2] at hd
    rcases Nat.mod_two_eq_zero_or_one j with h | h
    · have e : j = j / 2 * 2 := by omega
      have := hd.1
      rw [← e] at this
      rw [this]
      simp [madeCells, Value.cells, hj, h]
    · have e : j = j / 2 * 2 + 1 := by omega
      have := hd.2
      rw [← e] at this
      rw [this]
      simp [madeCells, Value.cells, hj, h]
  · have h1 : (madeCells (Value.cells (.agg #[.int .i64 0, .int .i64 0])) (n * 2)).toList.length ≤ j := by
      rw [Array.length_toList, size_madeCells]; omega
    rw [List.getElem?_eq_none h1, List.getElem?_eq_none (by rw [hl]; omega)]
theorem info_dep : (Try.prog.info? 33).map (fun i => (i.zero, i.size, i.bytes)) = some (some (.agg #[.int .i64 0, .int .i64 0]), 2, 16) := by kernel_rfl
end Go.Proofs.Ytkanbnbofoabeaa
