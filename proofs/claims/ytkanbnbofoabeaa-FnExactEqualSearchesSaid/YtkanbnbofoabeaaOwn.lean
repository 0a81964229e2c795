/- Slices that the call itself made: int lists and lists of dependencies in rows of its own. -/
import Derived.Test.YtkanbnbofoabeaaProg
import Derived.Test.YtkanbnbofoabeaaLib
namespace Go.Proofs.Ytkanbnbofoabeaa
open Go.RowKit
set_option linter.unusedVariables false
set_option maxRecDepth 100000

def encI (x : Int) : Value := .int .i64 x
/-- 'v' is a slice of ints of the call's own (made from block 'base' on) that reads as L. -/
def OwnI (w : World) (base : Nat) (v : Value) (L : List Int) : Prop := w.ownsRow base 3 1 v L.length (L.map encI)

theorem below_grown {w w' : World} {row : Option Nat} {B : Nat} (hg : w.grownBy w' row) (hB : B ≤ w.heap.size) (hr : ∀ k, row = some k → B ≤ k) : Below B w w' :=
  (Below.refl B w).grown hg hB hr

theorem owns_keep {w w' : World} {base : Nat} {e : TypeId} {size : Nat} {v : Value} {n : Nat} {xs : List Value} (h : w.ownsRow base e size v n xs) (hb : Below w.heap.size w w') : w'.ownsRow base e size v n xs := by
  refine ⟨h.1, ?_⟩
  rcases h.2 with hn | ⟨g, cap, cur, rfl, hbg, hgg, rest⟩
  · exact .inl hn
  · exact .inr ⟨g, cap, cur, rfl, hbg, by rw [hb.block g (Array.getElem?_eq_some_iff.1 hgg).1]; exact hgg, rest⟩
theorem owns_base {w : World} {base base' : Nat} {e : TypeId} {size : Nat} {v : Value} {n : Nat} {xs : List Value} (h : w.ownsRow base e size v n xs) (hb : base' ≤ base) : w.ownsRow base' e size v n xs := by
  refine ⟨h.1, ?_⟩
  rcases h.2 with hn | ⟨g, cap, cur, rfl, hbg, rest⟩
  · exact .inl hn
  · exact .inr ⟨g, cap, cur, rfl, by omega, rest⟩
/-- The shape of a slice that is owned, and its cells. -/
theorem owns_cells {w : World} {base : Nat} {e : TypeId} {size : Nat} {v : Value} {n : Nat} {xs : List Value} (h : w.ownsRow base e size v n xs) :
    ∃ oa cap, v = .slice oa n cap ∧ (0 < n → ∃ g, oa = some ⟨g, 0, none⟩ ∧ base ≤ g ∧ g < w.heap.size ∧ n ≤ cap ∧ (∀ j, j < n * size → w.cell? ⟨g, j, none⟩ = xs[j]?) ∧ (∀ j, w.frozen? ⟨g, j, none⟩ = false)) := by
  have h' := h
  rcases h.2 with ⟨rfl, rfl⟩ | ⟨g, cap, cur, rfl, hbg, hgg, hc, _⟩
  · exact ⟨none, 0, rfl, fun h => absurd h (by omega)⟩
  · exact ⟨_, cap, rfl, fun _ => ⟨g, rfl, hbg, (Array.getElem?_eq_some_iff.1 hgg).1, hc, fun j hj => h'.cellAt j hj, fun j => h'.frozenAt j⟩⟩

theorem OwnI.keep {w w' : World} {base : Nat} {v : Value} {L : List Int} (h : OwnI w base v L) (hb : Below w.heap.size w w') : OwnI w' base v L := owns_keep h hb
theorem OwnI.reads {w : World} {base : Nat} {v : Value} {L : List Int} (h : OwnI w base v L) (hl : L.length ≤ Room) :
    ∃ oa cap, v = .slice oa L.length cap ∧ IntsAt w oa L := by
  obtain ⟨oa, cap, hv, hc⟩ := owns_cells h
  refine ⟨oa, cap, hv, hl, fun h0 => ?_⟩
  obtain ⟨g, ha, hbg, hlt, _, hcell, _⟩ := hc h0
  refine ⟨g, 0, ha, hlt, fun k hk => ?_⟩
  rw [Nat.zero_add, hcell k (by omega), List.getElem?_map, List.getElem?_eq_getElem hk]
  simp [encI, nth, List.getD, List.getElem?_eq_getElem hk]

theorem owns_block {w : World} {base : Nat} {e : TypeId} {size : Nat} {oa : Option Addr} {n m cap : Nat} {xs : List Value} (h : w.ownsRow base e size (.slice oa n cap) m xs) : ∀ a, oa = some a → base ≤ a.block := by
  intro a ha
  subst ha
  exact (World.ownsRow.lt h a.block rfl).1
theorem IntsAt.set {w : World} {oa : Option Addr} {L : List Int} (h : IntsAt w oa L) (p : Addr) (v : Value) (hne : ∀ a, oa = some a → a.block ≠ p.block) : IntsAt (w.setCell p v) oa L :=
  ⟨h.len, fun h0 => by
    obtain ⟨b, off, e, hlt, hc⟩ := h.at_ h0
    have hb : b ≠ p.block := hne _ e
    exact ⟨b, off, e, by simpa using hlt, fun k hk => by
      have : (w.setCell p v).heap[b]? = w.heap[b]? := Below.heap_setCell w p v b hb
      rw [World.cell?_of_block (w := w) (a := ⟨b, off + k, none⟩) this]; exact hc k hk⟩⟩
theorem nth_eq {L : List Int} {k : Nat} (hk : k < L.length) : L[k]? = some (nth L k) := by
  simp [nth, List.getD, List.getElem?_eq_getElem hk]
theorem list_ext {L M : List Int} (hl : L.length = M.length) (h : ∀ k, k < L.length → nth L k = nth M k) : L = M := by
  apply List.ext_getElem? 
  intro k
  by_cases hk : k < L.length
  · rw [nth_eq hk, nth_eq (by omega), h k hk]
  · rw [List.getElem?_eq_none (by omega), List.getElem?_eq_none (by omega)]
theorem nth_set {L : List Int} {j k : Nat} {x : Int} (hj : j < L.length) : nth (L.set j x) k = if k = j then x else nth L k := by
  unfold nth List.getD
  rw [List.getElem?_set]
  by_cases h : j = k
  · subst h; simp [hj]
  · rw [if_neg h, if_neg (by omega)]
theorem OwnI.store {w : World} {base g : Nat} {n cap : Nat} {L : List Int} (h : OwnI w base (.slice (some ⟨g, 0, none⟩) n cap) L) (hn : n = L.length) (j : Nat) (x : Int) :
    OwnI (w.setCell ⟨g, j, none⟩ (.int .i64 x)) base (.slice (some ⟨g, 0, none⟩) n cap) (L.set j x) := by
  subst hn
  have := (h.stored j (.int .i64 x)).1
  unfold OwnI
  rw [List.length_set, List.map_set]
  exact this
theorem OwnI.cell {w : World} {base g : Nat} {n cap : Nat} {L : List Int} (h : OwnI w base (.slice (some ⟨g, 0, none⟩) n cap) L) (hn : n = L.length) (j : Nat) (hj : j < n) :
    w.cell? ⟨g, j, none⟩ = some (.int .i64 (nth L j)) ∧ w.frozen? ⟨g, j, none⟩ = false := by
  subst hn
  refine ⟨?_, h.frozenAt j⟩
  rw [h.cellAt j (by omega), List.getElem?_map, nth_eq hj]; rfl

/-- A slice of ints that came in, as the row's shell hands it over. -/
def IsRow (k : IntKind) (w : World) (a : Option Addr) (len cap : Nat) (zs : List Int) : Prop :=
  (a = none ∧ len = 0 ∧ cap = 0 ∧ zs = []) ∨
  ∃ x, a = some x ∧ len ≤ cap ∧ cap ≤ maxLen ∧ zs.length = cap ∧ (∀ i, i < zs.length → w.cell? (x.add i) = some (.int k (zs.getD i 0))) ∧ ∀ n ∈ zs, (Lit.int k n).wf = true
/-- A slice of ints that came in: it has some length, and reads as a list if that is not beyond all bounds. -/
def InInts (w : World) (v : Value) : Prop := ∃ a len cap zs, v = .slice a len cap ∧ IsRow .i64 w a len cap zs
theorem IsRow.ints {w : World} {a : Option Addr} {len cap : Nat} {zs : List Int} (h : IsRow .i64 w a len cap zs) (hr : len ≤ Room) : ∃ L : List Int, L.length = len ∧ IntsAt w a L := by
  rcases h with ⟨rfl, rfl, rfl, rfl⟩ | ⟨x, rfl, hl, hm, hz, hcell, hwz⟩
  · exact ⟨[], rfl, by simp, fun h => absurd h (by simp)⟩
  · refine ⟨zs.take len, by rw [List.length_take]; omega, by rw [List.length_take]; omega, fun h0 => ?_⟩
    rw [List.length_take] at h0
    obtain ⟨b, off, spot⟩ := x
    have hc := hcell 0 (by omega)
    have hspot : spot = none := by simpa [Addr.add] using World.cell?_spot hc
    subst hspot
    refine ⟨b, off, rfl, World.block_lt_of_cell? w ⟨b, off, none⟩ (by simpa [Addr.add] using hc), fun k hk => ?_⟩
    rw [List.length_take] at hk
    have := hcell k (by omega)
    have e : (⟨b, off, none⟩ : Addr).add k = ⟨b, off + k, none⟩ := by unfold Addr.add; split <;> simp_all
    rw [e] at this
    rw [this]
    simp [nth, List.getD, (show k < len by omega)]
theorem bne_false {a b : Int} (h : a = b) : (a != b) = false := by simp [h]
theorem bne_true {a b : Int} (h : a ≠ b) : (a != b) = true := by simp [h]

theorem ownI_made {w : World} {base : Nat} {v : Value} {n : Nat} (h : w.ownsRow base 3 1 v n (madeCells (Value.cells (.int .i64 0)) (n * 1)).toList) : OwnI w base v (List.replicate n 0) := by
  have e : (madeCells (Value.cells (.int .i64 0)) (n * 1)).toList = (List.replicate n (0 : Int)).map encI := by
    rw [Nat.mul_one]
    have : (Value.cells (.int .i64 0)) = #[Value.int .i64 0] := rfl
    rw [this, toList_madeCells_one, List.map_replicate]; rfl
  rw [e] at h
  unfold OwnI
  rw [List.length_replicate]
  exact h

theorem info_int : (Try.prog.info? 3).map (fun i => (i.zero, i.size, i.bytes)) = some (some (.int .i64 0), 1, 8) := by kernel_rfl
end Go.Proofs.Ytkanbnbofoabeaa
