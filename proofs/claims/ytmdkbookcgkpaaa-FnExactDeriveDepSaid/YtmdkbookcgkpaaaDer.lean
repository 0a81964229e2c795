/- Slices of derivation steps: how they read, those of the call's own, the law's copies and comparisons. -/
import Derived.Test.YtmdkbookcgkpaaaMark
namespace Go.Proofs.Ytmdkbookcgkpaaa
open Go.RowKit
set_option linter.unusedVariables false
set_option maxRecDepth 100000

abbrev T3 := Int × Int × Int
def ta (L : List T3) (k : Nat) : Int := (L.getD k (0, 0, 0)).1
def tb (L : List T3) (k : Nat) : Int := (L.getD k (0, 0, 0)).2.1
def tc (L : List T3) (k : Nat) : Int := (L.getD k (0, 0, 0)).2.2
structure DersAt (w : World) (oa : Option Addr) (L : List T3) : Prop where
  len : L.length ≤ Room
  at_ : 0 < L.length → ∃ b off, oa = some ⟨b, off, none⟩ ∧ b < w.heap.size ∧
    ∀ k, k < L.length → w.cell? ⟨b, off + k * 3, none⟩ = some (.int .i64 (ta L k)) ∧ w.cell? ⟨b, off + k * 3 + 1, none⟩ = some (.int .i64 (tb L k)) ∧ w.cell? ⟨b, off + k * 3 + 2, none⟩ = some (.int .i64 (tc L k))
theorem DersAt.keep {w w' : World} {oa : Option Addr} {L : List T3} (h : DersAt w oa L) (hb : Below w.heap.size w w') : DersAt w' oa L :=
  ⟨h.len, fun h0 => by
    obtain ⟨b, off, e, hlt, hc⟩ := h.at_ h0
    exact ⟨b, off, e, Nat.lt_of_lt_of_le hlt hb.size, fun k hk => by
      rw [hb.cell (p := ⟨b, off + k * 3, none⟩) hlt, hb.cell (p := ⟨b, off + k * 3 + 1, none⟩) hlt, hb.cell (p := ⟨b, off + k * 3 + 2, none⟩) hlt]; exact hc k hk⟩⟩
def encT (d : T3) : List Value := [.int .i64 d.1, .int .i64 d.2.1, .int .i64 d.2.2]
def tcells (D : List T3) : List Value := D.flatMap encT
theorem tcells_cons (d : T3) (D : List T3) : tcells (d :: D) = .int .i64 d.1 :: .int .i64 d.2.1 :: .int .i64 d.2.2 :: tcells D := rfl
theorem tcells_length : ∀ D : List T3, (tcells D).length = D.length * 3
  | [] => rfl
  | d :: D => by rw [tcells_cons]; simp [tcells_length D]; omega
theorem tcells_append (D E : List T3) : tcells (D ++ E) = tcells D ++ tcells E := by simp [tcells]
theorem tcells_at : ∀ (D : List T3) (k : Nat), k < D.length → (tcells D)[k * 3]? = some (.int .i64 (ta D k)) ∧ (tcells D)[k * 3 + 1]? = some (.int .i64 (tb D k)) ∧ (tcells D)[k * 3 + 2]? = some (.int .i64 (tc D k))
  | [], k, h => absurd h (by simp)
  | d :: D, 0, _ => ⟨rfl, rfl, rfl⟩
  | d :: D, k + 1, h => by
    have := tcells_at D k (by simpa using h)
    rw [tcells_cons, show (k + 1) * 3 = k * 3 + 1 + 1 + 1 by omega, show k * 3 + 1 + 1 + 1 + 1 = (k * 3 + 1) + 1 + 1 + 1 by omega, show k * 3 + 1 + 1 + 1 + 2 = (k * 3 + 2) + 1 + 1 + 1 by omega]
    simp only [List.getElem?_cons_succ]
    exact this
theorem tcells_set : ∀ (D : List T3) (k : Nat) (d : T3), (((tcells D).set (k * 3) (.int .i64 d.1)).set (k * 3 + 1) (.int .i64 d.2.1)).set (k * 3 + 2) (.int .i64 d.2.2) = tcells (D.set k d)
  | [], k, d => by simp [tcells]
  | e :: D, 0, d => rfl
  | e :: D, k + 1, d => by
    have := tcells_set D k d
    rw [List.set_cons_succ, tcells_cons, tcells_cons, show (k + 1) * 3 = k * 3 + 1 + 1 + 1 by omega, show k * 3 + 1 + 1 + 1 + 1 = (k * 3 + 1) + 1 + 1 + 1 by omega, show k * 3 + 1 + 1 + 1 + 2 = (k * 3 + 2) + 1 + 1 + 1 by omega]
    simp only [List.set_cons_succ]
    rw [this]
theorem t_set {L : List T3} {j k : Nat} {x : T3} (hj : j < L.length) : ta (L.set j x) k = (if k = j then x.1 else ta L k) ∧ tb (L.set j x) k = (if k = j then x.2.1 else tb L k) ∧ tc (L.set j x) k = (if k = j then x.2.2 else tc L k) := by
  unfold ta tb tc List.getD
  rw [List.getElem?_set]
  by_cases h : j = k
  · subst h; simp [hj]
  · rw [if_neg h, if_neg (by omega), if_neg (by omega), if_neg (by omega)]; exact ⟨rfl, rfl, rfl⟩
theorem tnth_eq {L : List T3} {k : Nat} (hk : k < L.length) : L[k]? = some (ta L k, tb L k, tc L k) := by
  simp [ta, tb, tc, List.getD, List.getElem?_eq_getElem hk]
theorem tlist_ext {L M : List T3} (hl : L.length = M.length) (h : ∀ k, k < L.length → ta L k = ta M k ∧ tb L k = tb M k ∧ tc L k = tc M k) : L = M := by
  apply List.ext_getElem?
  intro k
  by_cases hk : k < L.length
  · rw [tnth_eq hk, tnth_eq (by omega), (h k hk).1, (h k hk).2.1, (h k hk).2.2]
  · rw [List.getElem?_eq_none (by omega), List.getElem?_eq_none (by omega)]

def OwnT (w : World) (base : Nat) (v : Value) (D : List T3) : Prop := w.ownsRow base 73 3 v D.length (tcells D)
theorem OwnT.keep {w w' : World} {base : Nat} {v : Value} {D : List T3} (h : OwnT w base v D) (hb : Below w.heap.size w w') : OwnT w' base v D := owns_keep h hb
theorem OwnT.reads {w : World} {base : Nat} {v : Value} {D : List T3} (h : OwnT w base v D) (hl : D.length ≤ Room) :
    ∃ oa cap, v = .slice oa D.length cap ∧ DersAt w oa D := by
  obtain ⟨oa, cap, hv, hc⟩ := owns_cells h
  refine ⟨oa, cap, hv, hl, fun h0 => ?_⟩
  obtain ⟨g, ha, hbg, hlt, _, hcell, _⟩ := hc h0
  refine ⟨g, 0, ha, hlt, fun k hk => ?_⟩
  rw [Nat.zero_add, hcell (k * 3) (by omega), hcell (k * 3 + 1) (by omega), hcell (k * 3 + 2) (by omega)]
  exact tcells_at D k hk
theorem OwnT.ders {w : World} {base : Nat} {oa : Option Addr} {n cap : Nat} {L : List T3} (h : OwnT w base (.slice oa n cap) L) (hn : n = L.length) (hl : L.length ≤ Room) : DersAt w oa L := by
  obtain ⟨oa', cap', hv, hI⟩ := h.reads hl
  simp only [Value.slice.injEq] at hv
  rw [hv.1]; exact hI
theorem OwnT.shape {w : World} {base : Nat} {v : Value} {L : List T3} (h : OwnT w base v L) : ∃ oa cap, v = .slice oa L.length cap := by
  obtain ⟨oa, cap, hv, _⟩ := owns_cells h; exact ⟨oa, cap, hv⟩
theorem OwnT.cell {w : World} {base g : Nat} {n cap : Nat} {D : List T3} (h : OwnT w base (.slice (some ⟨g, 0, none⟩) n cap) D) (hn : n = D.length) (k : Nat) (hk : k < n) :
    (w.cell? ⟨g, k * 3, none⟩ = some (.int .i64 (ta D k)) ∧ w.cell? ⟨g, k * 3 + 1, none⟩ = some (.int .i64 (tb D k)) ∧ w.cell? ⟨g, k * 3 + 2, none⟩ = some (.int .i64 (tc D k))) ∧ w.frozen? ⟨g, k * 3, none⟩ = false ∧ w.frozen? ⟨g, k * 3 + 1, none⟩ = false ∧ w.frozen? ⟨g, k * 3 + 2, none⟩ = false := by
  subst hn
  refine ⟨?_, h.frozenAt _, h.frozenAt _, h.frozenAt _⟩
  rw [h.cellAt (k * 3) (by omega), h.cellAt (k * 3 + 1) (by omega), h.cellAt (k * 3 + 2) (by omega)]
  exact tcells_at D k hk
theorem OwnT.store {w : World} {base g : Nat} {n cap : Nat} {D : List T3} (h : OwnT w base (.slice (some ⟨g, 0, none⟩) n cap) D) (hn : n = D.length) (k : Nat) (l r s : Int) :
    OwnT (((w.setCell ⟨g, k * 3, none⟩ (.int .i64 l)).setCell ⟨g, k * 3 + 1, none⟩ (.int .i64 r)).setCell ⟨g, k * 3 + 2, none⟩ (.int .i64 s)) base (.slice (some ⟨g, 0, none⟩) n cap) (D.set k (l, r, s)) := by
  subst hn
  have := (((h.stored (k * 3) (.int .i64 l)).1.stored (k * 3 + 1) (.int .i64 r)).1.stored (k * 3 + 2) (.int .i64 s)).1
  unfold OwnT
  rw [List.length_set, ← tcells_set]
  exact this
theorem madeT (n : Nat) : (madeCells (Value.cells (.agg #[.int .i64 0, .int .i64 0, .int .i64 0])) (n * 3)).toList = tcells (List.replicate n (0, 0, 0)) := by
  apply List.ext_getElem?
  intro j
  have hl : (tcells (List.replicate n (0, 0, 0))).length = n * 3 := by rw [tcells_length]; simp
  by_cases hj : j < n * 3
  · have h2 : j / 3 < (List.replicate n ((0, 0, 0) : T3)).length := by simp; omega
    have hd := tcells_at _ _ h2
    have z : ta (List.replicate n (0, 0, 0)) (j / 3) = 0 ∧ tb (List.replicate n (0, 0, 0)) (j / 3) = 0 ∧ tc (List.replicate n (0, 0, 0)) (j / 3) = 0 := by
      simp only [List.length_replicate] at h2
      unfold ta tb tc List.getD
      rw [List.getElem?_replicate, if_pos h2]; exact ⟨rfl, rfl, rfl⟩
    rw [z.1, z.2.1, z.2.2] at hd
    have h3 : j % 3 = 0 ∨ j % 3 = 1 ∨ j % 3 = 2 := by omega
    rcases h3 with h | h | h
    · have e : j = j / 3 * 3 := by omega
      have := hd.1
      rw [← e] at this
      rw [this]
      simp [madeCells, Value.cells, hj, h]
    · have e : j = j / 3 * 3 + 1 := by omega
      have := hd.2.1
      rw [← e] at this
      rw [this]
      simp [madeCells, Value.cells, hj, h]
    · have e : j = j / 3 * 3 + 2 := by omega
      have := hd.2.2
      rw [← e] at this
      rw [this]
      simp [madeCells, Value.cells, hj, h]
  · have h1 : (madeCells (Value.cells (.agg #[.int .i64 0, .int .i64 0, .int .i64 0])) (n * 3)).toList.length ≤ j := by
      rw [Array.length_toList, size_madeCells]; omega
    rw [List.getElem?_eq_none h1, List.getElem?_eq_none (by rw [hl]; omega)]
theorem info_derived : (Try.prog.info? 73).map (fun i => (i.zero, i.size, i.bytes)) = some (some (.agg #[.int .i64 0, .int .i64 0, .int .i64 0]), 3, 24) := by kernel_rfl
def derEqB (a b c a' b' c' : Int) : Bool := decide (a = a' ∧ b = b' ∧ c = c')
end Go.Proofs.Ytmdkbookcgkpaaa
