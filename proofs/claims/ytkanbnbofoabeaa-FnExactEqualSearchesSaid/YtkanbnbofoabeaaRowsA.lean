/- Lists of lists that grow, and lists of bools, of the call's own. -/
import Derived.Test.YtkanbnbofoabeaaOwnR3
import Derived.Test.YtkanbnbofoabeaaMembers
namespace Go.Proofs.Ytkanbnbofoabeaa
open Go.RowKit
set_option linter.unusedVariables false
set_option maxRecDepth 100000

def encB (b : Bool) : Value := .bool b
def bth (L : List Bool) (k : Nat) : Bool := L.getD k false
def OwnB (w : World) (base : Nat) (v : Value) (L : List Bool) : Prop := w.ownsRow base 4 1 v L.length (L.map encB)
theorem OwnB.keep {w w' : World} {base : Nat} {v : Value} {L : List Bool} (h : OwnB w base v L) (hb : Below w.heap.size w w') : OwnB w' base v L := owns_keep h hb
theorem OwnB.far {w w' : World} {base : Nat} {v v' : Value} {L : List Bool} (h : OwnB w base v L) (hg : w.grownBy w' v'.ownBlock) (ha : Apart v v') : OwnB w' base v L := World.ownsRow.kept h hg ha
theorem OwnB.based {w : World} {base base' : Nat} {v : Value} {L : List Bool} (h : OwnB w base v L) (hb : base' ≤ base) : OwnB w base' v L := owns_base h hb
theorem OwnB.past {w w' : World} {base : Nat} {M v v' : Value} {L : List Bool} {o : Obj} (h : OwnB w base M L) (hg : (w.alloc o).grownBy w' v.ownBlock) (ha : Apart M v) (hf : Fresh (w.alloc o) v v') : OwnB w' base M L ∧ Apart M v' :=
  ⟨OwnB.far (World.ownsRow.alloc h o) hg ha, Apart.next (World.ownsRow.alloc h o) ha hf⟩
theorem bth_eq {L : List Bool} {k : Nat} (hk : k < L.length) : L[k]? = some (bth L k) := by simp [bth, List.getD, hk]
theorem bth_set {L : List Bool} {j k : Nat} {x : Bool} (hj : j < L.length) : bth (L.set j x) k = if k = j then x else bth L k := by
  unfold bth List.getD
  rw [List.getElem?_set]
  by_cases h : j = k
  · subst h; simp [hj]
  · rw [if_neg h, if_neg (by omega)]
theorem OwnB.cell {w : World} {base g : Nat} {n cap : Nat} {L : List Bool} (h : OwnB w base (.slice (some ⟨g, 0, none⟩) n cap) L) (hn : n = L.length) (j : Nat) (hj : j < n) :
    w.cell? ⟨g, j, none⟩ = some (.bool (bth L j)) ∧ w.frozen? ⟨g, j, none⟩ = false := by
  subst hn
  refine ⟨?_, h.frozenAt j⟩
  rw [h.cellAt j (by omega), List.getElem?_map, bth_eq hj]; rfl
theorem OwnB.store {w : World} {base g : Nat} {n cap : Nat} {L : List Bool} (h : OwnB w base (.slice (some ⟨g, 0, none⟩) n cap) L) (hn : n = L.length) (j : Nat) (x : Bool) :
    OwnB (w.setCell ⟨g, j, none⟩ (.bool x)) base (.slice (some ⟨g, 0, none⟩) n cap) (L.set j x) := by
  subst hn
  have := (h.stored j (.bool x)).1
  unfold OwnB
  rw [List.length_set, List.map_set]
  exact this
theorem ownB_made {w : World} {base : Nat} {v : Value} {n : Nat} (h : w.ownsRow base 4 1 v n (madeCells (Value.cells (.bool false)) (n * 1)).toList) : OwnB w base v (List.replicate n false) := by
  have e : (madeCells (Value.cells (.bool false)) (n * 1)).toList = (List.replicate n false).map encB := by
    rw [Nat.mul_one]
    have : (Value.cells (.bool false)) = #[Value.bool false] := rfl
    rw [this, toList_madeCells_one, List.map_replicate]; rfl
  rw [e] at h
  unfold OwnB
  rw [List.length_replicate]
  exact h
theorem bth_replicate (n k : Nat) : bth (List.replicate n false) k = false := by
  unfold bth List.getD
  rw [List.getElem?_replicate]
  split <;> rfl
theorem info_bool : (Try.prog.info? 4).map (fun i => (i.zero, i.size, i.bytes)) = some (some (.bool false), 1, 1) := by kernel_rfl
theorem OwnI.single (w : World) (base : Nat) (hb : base ≤ w.heap.size) (x : Int) : OwnI (w.alloc (.cells #[.int .i64 x] 3)) base (.slice (some ⟨w.heap.size, 0, none⟩) 1 1) [x] :=
  World.ownsRow_lit w #[.int .i64 x] 1 hb (by decide) rfl

/-- A list of lists lies apart from a slice. -/
def ApartR (v : Value) (xs : List Value) (u : Value) : Prop := Apart v u ∧ ∀ y ∈ xs, Apart y u
theorem OwnRows.one {w : World} {B : Nat} {v : Value} {xs : List Value} {R : List (List Int)} (h : OwnRows w B v xs R) {y : Value} (hy : y ∈ xs) : ∃ j, j < R.length ∧ ∃ o c, y = .slice o (row R j).length c ∧ OwnI w B y (row R j) ∧ Apart v y := by
  obtain ⟨j, hj⟩ := List.mem_iff_getElem?.1 hy
  have hjl : j < R.length := by rw [← h.len]; exact (List.getElem?_eq_some_iff.1 hj).1
  obtain ⟨o, c, h1, h2, h3⟩ := h.rows j hjl
  rw [h1] at hj
  injection hj with hj
  exact ⟨j, hjl, o, c, hj.symm, by rw [← hj]; exact h2, by rw [← hj]; exact h3⟩
theorem OwnRows.fresh {w w' : World} {B size n : Nat} {e : TypeId} {u v : Value} {ys xs : List Value} {R : List (List Int)} (h : OwnRows w B v xs R) (h' : w'.ownsRow w.heap.size e size u n ys) : ApartR v xs u :=
  ⟨apart_old h.outer h', fun y hy => by obtain ⟨j, _, o, c, e, h2, _⟩ := h.one hy; exact apart_old h2 h'⟩
theorem OwnRows.past {w w' : World} {B : Nat} {v u u' : Value} {xs : List Value} {R : List (List Int)} {o : Obj} (h : OwnRows w B v xs R) (hg : (w.alloc o).grownBy w' u.ownBlock) (ha : ApartR v xs u) (hf : Fresh (w.alloc o) u u') : OwnRows w' B v xs R ∧ ApartR v xs u' := by
  have hk := h.keep ((Below.refl w.heap.size w).alloc (Nat.le_refl _) o)
  refine ⟨⟨h.len, World.ownsRow.kept hk.outer hg ha.1, fun j hj => ?_, h.pair⟩, Apart.next hk.outer ha.1 hf, fun y hy => ?_⟩
  · obtain ⟨o', c, h1, h2, h3⟩ := hk.rows j hj
    exact ⟨o', c, h1, h2.far hg (ha.2 _ (List.mem_iff_getElem?.2 ⟨j, h1⟩)), h3⟩
  · obtain ⟨j, _, o', c, e, h2, _⟩ := hk.one hy
    exact Apart.next h2 (ha.2 y hy) hf
theorem OwnRows.far {w w' : World} {B : Nat} {v u : Value} {xs : List Value} {R : List (List Int)} (h : OwnRows w B v xs R) (hg : w.grownBy w' u.ownBlock) (ha : ApartR v xs u) : OwnRows w' B v xs R := by
  refine ⟨h.len, World.ownsRow.kept h.outer hg ha.1, fun j hj => ?_, h.pair⟩
  obtain ⟨o', c, h1, h2, h3⟩ := h.rows j hj
  exact ⟨o', c, h1, h2.far hg (ha.2 _ (List.mem_iff_getElem?.2 ⟨j, h1⟩)), h3⟩
theorem row_append_lt {R S : List (List Int)} {j : Nat} (h : j < R.length) : row (R ++ S) j = row R j := by simp [row, List.getD, List.getElem?_append_left h]
theorem row_append_end {R : List (List Int)} {C : List Int} : row (R ++ [C]) R.length = C := by simp [row, List.getD]
/-- A slice of the call's own is appended. -/
theorem OwnRows.snoc {w w' : World} {B : Nat} {v v' : Value} {o : Option Addr} {c : Nat} {xs : List Value} {R : List (List Int)} {C : List Int} {ob : Obj} (h : OwnRows w B v xs R) (hC : OwnI w B (.slice o C.length c) C) (ha : ApartR v xs (.slice o C.length c))
    (hown : w'.ownsRow B 69 1 v' (xs.length + 1) (xs ++ [.slice o C.length c])) (hg : (w.alloc ob).grownBy w' v.ownBlock) (hf : Fresh (w.alloc ob) v v') : OwnRows w' B v' (xs ++ [.slice o C.length c]) (R ++ [C]) := by
  have hk := h.keep ((Below.refl w.heap.size w).alloc (Nat.le_refl _) ob)
  have hCk := hC.keep ((Below.refl w.heap.size w).alloc (Nat.le_refl _) ob)
  have hl := h.len
  refine ⟨by simp [hl], by unfold OwnV; rw [List.length_append]; exact hown, fun j hj => ?_, fun i j hij hj u u' hu hu' => ?_⟩
  · rw [List.length_append, List.length_singleton] at hj
    rcases Nat.lt_or_ge j R.length with hjl | hjl
    · rw [row_append_lt hjl]
      obtain ⟨o', c', h1, h2, h3⟩ := hk.rows j hjl
      refine ⟨o', c', by rw [List.getElem?_append_left (by omega)]; exact h1, h2.far hg h3.symm, (Apart.next h2 h3.symm hf).symm⟩
    · have e : j = R.length := by omega
      subst e
      rw [row_append_end]
      exact ⟨o, c, by rw [← hl]; simp, hCk.far hg ha.1.symm, (Apart.next hCk ha.1.symm hf).symm⟩
  · rw [List.length_append, List.length_singleton] at hj
    rw [List.getElem?_append_left (by omega)] at hu
    rcases Nat.lt_or_ge j R.length with hjl | hjl
    · rw [List.getElem?_append_left (by omega)] at hu'
      exact h.pair i j hij hjl u u' hu hu'
    · have e : j = xs.length := by omega
      subst e
      simp at hu'
      subst hu'
      exact ha.2 u (List.mem_iff_getElem?.2 ⟨i, hu⟩)
theorem OwnRows.apartFrom {w w' : World} {B size n : Nat} {e : TypeId} {u u' v : Value} {ys xs : List Value} {R : List (List Int)} (h : OwnRows w B v xs R) : True := trivial
theorem OwnRows.empty (w : World) (base : Nat) (hb : base ≤ w.heap.size) : OwnRows (w.alloc (.cells #[] 69)) base (.slice (some ⟨w.heap.size, 0, none⟩) 0 0) [] [] :=
  ⟨rfl, World.ownsRow_lit w #[] 0 hb (Nat.zero_le _) rfl, fun j hj => absurd hj (by simp), fun i j _ hj => absurd hj (by simp)⟩
theorem OwnRows.none (w : World) (base : Nat) : OwnRows w base (.slice none 0 0) [] [] :=
  ⟨rfl, World.ownsRow_nil w base _ _, fun j hj => absurd hj (by simp), fun i j _ hj => absurd hj (by simp)⟩
end Go.Proofs.Ytkanbnbofoabeaa
