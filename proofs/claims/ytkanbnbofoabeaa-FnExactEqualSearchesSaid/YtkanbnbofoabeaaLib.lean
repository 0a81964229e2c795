/- What every walk of this claim leans on: the class of worlds that extend a world, slices that read as lists, and contracts of functions that only make memory. -/
import Derived.WalkKit
import Derived.WalkSpells
import Derived.BigQuiet
namespace Go.Proofs.Ytkanbnbofoabeaa
open Go.RowKit

/-- A cell that is there stays as it is in every world that extends this one. -/
theorem cell_keep {w w' : World} {a : Addr} {v : Value} (h : w.cell? a = some v) (hb : Below w.heap.size w w') : w'.cell? a = some v :=
  (hb.cell (World.block_lt_of_cell? w a h)).trans h
theorem cell_after {w w' : World} {B : Nat} {a : Addr} {v : Value} (h : w.cell? a = some v) (hB : B = w.heap.size) (hb : Below B w w') : w'.cell? a = some v := by
  subst hB; exact cell_keep h hb
/-- What a new block holds, behind a call made over it. -/
theorem box_cell {w w' : World} {c : Array Value} {T : TypeId} {n : Nat} (hb : Below n (w.alloc (.cells c T)) w') (hn : n = w.heap.size + 1) (j : Nat) (v : Value) (hv : c[j]? = some v) : w'.cell? ⟨w.heap.size, j, none⟩ = some v := by
  have h0 : (w.alloc (.cells c T)).cell? ⟨w.heap.size, j, none⟩ = some v := by
    simp only [World.cell?, heap_alloc_new]; exact hv
  exact cell_after h0 (by rw [hn]; simp) hb
/-- The worlds that hold all that 'w' held, as it was. -/
def After (w : World) : Type := { w' : World // Below w.heap.size w w' }
def After.w {w : World} (x : After w) : World := x.1
theorem After.bel {w : World} (x : After w) : Below w.heap.size w x.w := x.2
theorem after_lt {w : World} (x : After w) {b : Nat} (h : b < w.heap.size) : b < x.w.heap.size := Nat.lt_of_lt_of_le h x.bel.size

theorem bel_to {w a b : World} (h : Below w.heap.size w a) (k : Below a.heap.size a b) : Below w.heap.size w b := h.trans (k.mono h.size)

/-- The contract of a function that answers 'v' and leaves what was there as it was. -/
def Ans (P : Program) (f : FuncId) (args : Array Value) (w : World) (v : Value) : Prop :=
  Calls P f args w fun e w' => e = .returned v ∧ Below w.heap.size w w'

theorem Ans.after {P : Program} {f : FuncId} {args : Array Value} {w : World} {x : After w} {v : Value} (h : Ans P f args x.w v) :
    Calls P f args x.w fun e w'' => e = .returned v ∧ ∃ y : After w, w'' = y.w :=
  Calls.mono h fun _ _ ⟨he, hb⟩ => ⟨he, ⟨_, bel_to x.bel hb⟩, rfl⟩

theorem Ans.eqb {P : Program} {f : FuncId} {args : Array Value} {w : World} {b b' : Bool} (h : Ans P f args w (.bool b)) (e : b = b') : Ans P f args w (.bool b') := e ▸ h

/-- A region that draws its order, whose operations read and whose calls answer: one walk in the text's order. -/
theorem wp_region_after {P : Program} {id : Nat} {Q : Exit → Act → World → Prop} {a : Act} {w : World} {l : List Oper} (hm : P.follows .mixedOrders = true) (hB : Region.lexB .any l.toArray = true)
    (h : wpQuiet P l.toArray (fun w' => ∃ x : After w, w' = x.w) (fun a' => ∀ w', (∃ x : After w, w' = x.w) → Q .normal a' w') l a) : (Code.region id l.toArray true).wp P Q a w :=
  wp_region_quiet (C := fun w' => ∃ x : After w, w' = x.w) hm hB ⟨⟨_, (Below.refl _ _).drew⟩, rfl⟩ (by simpa using h)

instance (w : World) : Nonempty (After w) := ⟨⟨w, Below.refl _ _⟩⟩

/-- An int list's, a list of dependencies' cells, by number. -/
def nth (L : List Int) (k : Nat) : Int := L.getD k 0
def nl (L : List (Int × Int)) (k : Nat) : Int := (L.getD k (0, 0)).1
def nr (L : List (Int × Int)) (k : Nat) : Int := (L.getD k (0, 0)).2

def Room : Nat := 1073741824
/-- An int. -/
def I64 (n : Int) : Prop := -9223372036854775808 ≤ n ∧ n ≤ 9223372036854775807

structure IntsAt (w : World) (oa : Option Addr) (L : List Int) : Prop where
  len : L.length ≤ Room
  at_ : 0 < L.length → ∃ b off, oa = some ⟨b, off, none⟩ ∧ b < w.heap.size ∧ ∀ k, k < L.length → w.cell? ⟨b, off + k, none⟩ = some (.int .i64 (nth L k))
structure DepsAt (w : World) (oa : Option Addr) (L : List (Int × Int)) : Prop where
  len : L.length ≤ Room
  at_ : 0 < L.length → ∃ b off, oa = some ⟨b, off, none⟩ ∧ b < w.heap.size ∧
    ∀ k, k < L.length → w.cell? ⟨b, off + k * 2, none⟩ = some (.int .i64 (nl L k)) ∧ w.cell? ⟨b, off + k * 2 + 1, none⟩ = some (.int .i64 (nr L k))
theorem IntsAt.keep {w w' : World} {oa : Option Addr} {L : List Int} (h : IntsAt w oa L) (hb : Below w.heap.size w w') : IntsAt w' oa L :=
  ⟨h.len, fun h0 => by
    obtain ⟨b, off, e, hlt, hc⟩ := h.at_ h0
    exact ⟨b, off, e, Nat.lt_of_lt_of_le hlt hb.size, fun k hk => by rw [hb.cell (p := ⟨b, off + k, none⟩) hlt]; exact hc k hk⟩⟩
theorem DepsAt.keep {w w' : World} {oa : Option Addr} {L : List (Int × Int)} (h : DepsAt w oa L) (hb : Below w.heap.size w w') : DepsAt w' oa L :=
  ⟨h.len, fun h0 => by
    obtain ⟨b, off, e, hlt, hc⟩ := h.at_ h0
    exact ⟨b, off, e, Nat.lt_of_lt_of_le hlt hb.size, fun k hk => by
      rw [hb.cell (p := ⟨b, off + k * 2, none⟩) hlt, hb.cell (p := ⟨b, off + k * 2 + 1, none⟩) hlt]; exact hc k hk⟩⟩
theorem lt_step {p : Nat → Prop} {k : Nat} (h : ∀ j, j < k → p j) (hk : p k) : ∀ j, j < k + 1 → p j := fun j hj => by
  rcases Nat.lt_or_ge j k with h' | h'
  · exact h j h'
  · have : j = k := by omega
    subst this; exact hk
/-- A block that is known whole. -/
def Blk (w : World) (g : Nat) (c : Array Value) (T : TypeId) : Prop := w.heap[g]? = some (.cells c T (0, 0))
theorem Blk.lt {w : World} {g : Nat} {c : Array Value} {T : TypeId} (h : Blk w g c T) : g < w.heap.size := (Array.getElem?_eq_some_iff.1 h).1
theorem Blk.cell {w : World} {g : Nat} {c : Array Value} {T : TypeId} (h : Blk w g c T) (j : Nat) (v : Value) (hv : c[j]? = some v) : w.cell? ⟨g, j, none⟩ = some v := by
  unfold Blk at h; simp only [World.cell?, h]; exact hv
theorem Blk.free {w : World} {g : Nat} {c : Array Value} {T : TypeId} (h : Blk w g c T) (j : Nat) : w.frozen? ⟨g, j, none⟩ = false := by
  unfold Blk at h; simp only [World.frozen?, h]; simp
theorem Blk.keep {w w' : World} {g : Nat} {c : Array Value} {T : TypeId} (h : Blk w g c T) (hb : Below w.heap.size w w') : Blk w' g c T := (hb.block g h.lt).trans h
theorem Blk.new (w : World) (c : Array Value) (T : TypeId) : Blk (w.alloc (.cells c T)) w.heap.size c T := heap_alloc_new w _
theorem Blk.alloc {w : World} {g : Nat} {c : Array Value} {T : TypeId} (h : Blk w g c T) (o : Obj) : Blk (w.alloc o) g c T := (Below.heap_alloc w o g h.lt).trans h
theorem Blk.drew {w : World} {g : Nat} {c : Array Value} {T : TypeId} (h : Blk w g c T) : Blk w.drew g c T := h
theorem Blk.set {w : World} {g : Nat} {c : Array Value} {T : TypeId} (h : Blk w g c T) (j : Nat) (v : Value) : Blk (w.setCell ⟨g, j, none⟩ v) g (c.setIfInBounds j v) T := heap_setCell_same w g j c T v h
theorem Blk.far {w : World} {g : Nat} {c : Array Value} {T : TypeId} (h : Blk w g c T) (a : Addr) (v : Value) (hne : g ≠ a.block) : Blk (w.setCell a v) g c T := (Below.heap_setCell w a v g hne).trans h
theorem ret_bool {a b : Bool} (h : a = b) : Ending.returned (.bool a) = .returned (.bool b) := by rw [h]
theorem ret_int {a b : Int} (h : a = b) : Ending.returned (.int .i64 a) = .returned (.int .i64 b) := by rw [h]
end Go.Proofs.Ytkanbnbofoabeaa
