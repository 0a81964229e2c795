/- What every walk of this claim leans on: the class of worlds that extend a world, slices that read as lists, and contracts of functions that only make memory. -/
import Derived.WalkKit
import Derived.WalkSpells
import Derived.BigQuiet
namespace Go.Proofs.Ytmdkbookcgkpaaa
open Go.RowKit

theorem bcell {W w1 : World} (hb : Below W.heap.size W w1) : (∀ b o, b < W.heap.size → w1.cell? ⟨b, o, none⟩ = W.cell? ⟨b, o, none⟩) ∧ (∀ b o, b < W.heap.size → w1.frozen? ⟨b, o, none⟩ = W.frozen? ⟨b, o, none⟩) :=
  ⟨fun b o h => hb.cell (p := ⟨b, o, none⟩) h, fun b o h => hb.frozen (p := ⟨b, o, none⟩) h⟩

/-- The worlds that hold all that 'w' held, as it was. -/
def After (w : World) : Type := { w' : World // Below w.heap.size w w' }
def After.w {w : World} (x : After w) : World := x.1
theorem After.bel {w : World} (x : After w) : Below w.heap.size w x.w := x.2
theorem after_lt {w : World} (x : After w) {b : Nat} (h : b < w.heap.size) : b < x.w.heap.size := Nat.lt_of_lt_of_le h x.bel.size

theorem bel_to {w a b : World} (h : Below w.heap.size w a) (k : Below a.heap.size a b) : Below w.heap.size w b := h.trans (k.mono h.size)

/-- The contract of a function that answers 'v' and leaves what was there as it was. -/
def Ans (P : Program) (f : FuncId) (args : Array Value) (w : World) (v : Value) : Prop :=
  Calls P f args w fun e w' => e = .returned v ∧ Below w.heap.size w w'

theorem Ans.after {P : Program} {f : FuncId} {args : Array Value} {w : World} {x : After w} {v : Value} (h : Ans P f args x.w v) :
    Calls P f args x.w fun e w'' => e = .returned v ∧ ∃ y : After w, w'' = y.w :=
  Calls.mono h fun _ _ ⟨he, hb⟩ => ⟨he, ⟨_, bel_to x.bel hb⟩, rfl⟩

/-- A region that draws its order, whose operations read and whose calls answer: one walk in the text's order. -/
theorem wp_region_after {P : Program} {id : Nat} {Q : Exit → Act → World → Prop} {a : Act} {w : World} {l : List Oper} (hm : P.follows .mixedOrders = true) (hB : Region.lexB .any l.toArray = true)
    (h : (∀ (x : After w) b o, b < w.heap.size → x.w.cell? ⟨b, o, none⟩ = w.cell? ⟨b, o, none⟩) → wpQuiet P l.toArray (fun w' => ∃ x : After w, w' = x.w) (fun a' => ∀ w', (∃ x : After w, w' = x.w) → Q .normal a' w') l a) : (Code.region id l.toArray true).wp P Q a w :=
  wp_region_quiet (C := fun w' => ∃ x : After w, w' = x.w) hm hB ⟨⟨_, (Below.refl _ _).drew⟩, rfl⟩ (by simpa using h (fun x => (bcell x.bel).1))

instance (w : World) : Nonempty (After w) := ⟨⟨w, Below.refl _ _⟩⟩

/-- An int list's, a list of dependencies' cells, by number. -/
def nth (L : List Int) (k : Nat) : Int := L.getD k 0
def nl (L : List (Int × Int)) (k : Nat) : Int := (L.getD k (0, 0)).1
def nr (L : List (Int × Int)) (k : Nat) : Int := (L.getD k (0, 0)).2

def Room : Nat := 1073741824
/-- An int. -/
def I64 (n : Int) : Prop := -9223372036854775808 ≤ n ∧ n ≤ 9223372036854775807

structure IntsAt (w : World) (oa : Option Addr) (L : List Int) : Prop where
  len : L.length ≤ Room
  at_ : 0 < L.length → ∃ b off, oa = some ⟨b, off, none⟩ ∧ b < w.heap.size ∧ ∀ k, k < L.length → w.cell? ⟨b, off + k, none⟩ = some (.int .i64 (nth L k))
structure DepsAt (w : World) (oa : Option Addr) (L : List (Int × Int)) : Prop where
  len : L.length ≤ Room
  at_ : 0 < L.length → ∃ b off, oa = some ⟨b, off, none⟩ ∧ b < w.heap.size ∧
    ∀ k, k < L.length → w.cell? ⟨b, off + k * 2, none⟩ = some (.int .i64 (nl L k)) ∧ w.cell? ⟨b, off + k * 2 + 1, none⟩ = some (.int .i64 (nr L k))
theorem IntsAt.keep {w w' : World} {oa : Option Addr} {L : List Int} (h : IntsAt w oa L) (hb : Below w.heap.size w w') : IntsAt w' oa L :=
  ⟨h.len, fun h0 => by
    obtain ⟨b, off, e, hlt, hc⟩ := h.at_ h0
    exact ⟨b, off, e, Nat.lt_of_lt_of_le hlt hb.size, fun k hk => by rw [hb.cell (p := ⟨b, off + k, none⟩) hlt]; exact hc k hk⟩⟩
theorem DepsAt.keep {w w' : World} {oa : Option Addr} {L : List (Int × Int)} (h : DepsAt w oa L) (hb : Below w.heap.size w w') : DepsAt w' oa L :=
  ⟨h.len, fun h0 => by
    obtain ⟨b, off, e, hlt, hc⟩ := h.at_ h0
    exact ⟨b, off, e, Nat.lt_of_lt_of_le hlt hb.size, fun k hk => by
      rw [hb.cell (p := ⟨b, off + k * 2, none⟩) hlt, hb.cell (p := ⟨b, off + k * 2 + 1, none⟩) hlt]; exact hc k hk⟩⟩
theorem ret_bool {a b : Bool} (h : a = b) : Ending.returned (.bool a) = .returned (.bool b) := by rw [h]
theorem ret_int {a b : Int} (h : a = b) : Ending.returned (.int .i64 a) = .returned (.int .i64 b) := by rw [h]
end Go.Proofs.Ytmdkbookcgkpaaa
