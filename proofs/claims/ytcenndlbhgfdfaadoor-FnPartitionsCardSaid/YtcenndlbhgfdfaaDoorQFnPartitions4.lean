/- Contracts and lemmas for FnPartitions, part 4 of 5. -/
import Derived.Test.YtcenndlbhgfdfaaDoorQFnPartitions1
import Derived.Test.YtcenndlbhgfdfaaDoorQFnPartitions2
import Derived.Test.YtcenndlbhgfdfaaDoorQFnPartitions3
import Derived.ProofKit
import Derived.OpenShut
import Derived.Lib.SmallJoins
import Derived.Deep.SlicePairs
import Derived.Deep.Matrix
import Derived.Test.YtcenndlbhgfdfaaDoorShelf
import Derived.Sort.OwnSortedInts
import Derived.Lib.OwnBridge
import Derived.Shelf.SlSortCmp.NoneTotal
import Derived.Deep.RegionHeld3
import Derived.Deep.RegionLaw
import Derived.IntWalk
import Derived.Deep.CutRange
namespace Go.Proofs.YtcenndlbhgfdfaaDoor
open Go.RowKit
set_option linter.unusedVariables false
set_option maxRecDepth 100000

structure Sr where
  n : Int
  R : List (List Int)
  m : Int
  a : Int
  F : List (Int × Int)
  t : Int
def eqSrF (A B : Sr) : Bool := (((eqTabF A.n B.n A.R B.R && (A.m == B.m)) && (A.a == B.a)) && decide (A.F = B.F)) && (A.t == B.t)
end Go.Proofs.YtcenndlbhgfdfaaDoor
namespace Go.Proofs.YtcenndlbhgfdfaaDoor
open Go.ChangeShapes Go.WideShapes Go.ChangeAt Go.RowKit
set_option linter.unusedVariables false
set_option maxRecDepth 100000

theorem open_ints {H : Type} {enc : TypeId × Value → H} {W : World} {base : Nat} {held : Bool} {v : Value} {d : DataW H} {ps : List MemPlace} (hok : Value.okWide Tryd.prog W .any base 50 v)
    (h : DataW.Trod enc Tryd.prog W 0 (fun _ => true) held 50 v d ps) : InInts W v := by
  obtain ⟨a0, len0, cap0, rfl⟩ := okWide_slice Tryd.underlying50 hok
  obtain ⟨fuel, hf⟩ := h
  rcases Go.ChangeShapes.open_ints Tryd.underlying50 Tryd.underlying3 (by kernel_rfl) hf with ⟨hcs, _⟩ | ⟨x, l, c, zs, hcs, _, hl, hm, hz, _, hcell, hwz⟩
  · simp [Value.cells] at hcs
    obtain ⟨rfl, rfl, rfl⟩ := hcs
    exact ⟨_, _, _, [], rfl, .inl ⟨rfl, rfl, rfl, rfl⟩⟩
  · simp [Value.cells] at hcs
    obtain ⟨rfl, rfl, rfl⟩ := hcs
    exact ⟨_, _, _, zs, rfl, .inr ⟨_, rfl, hl, hm, by simpa using hz, hcell, hwz⟩⟩
end Go.Proofs.YtcenndlbhgfdfaaDoor
namespace Go.Proofs.YtcenndlbhgfdfaaDoor
open Go.ChangeShapes Go.WideShapes Go.ChangeAt Go.RowKit Go.Joins
set_option linter.unusedVariables false
set_option maxRecDepth 100000

theorem add_at (b off j : Nat) : (⟨b, off, none⟩ : Addr).add j = ⟨b, off + j, none⟩ := by unfold Addr.add; split <;> simp_all

end Go.Proofs.YtcenndlbhgfdfaaDoor
namespace Go.Proofs.YtcenndlbhgfdfaaDoor
open Go.ChangeShapes Go.WideShapes Go.ChangeAt Go.RowKit Go.Joins
set_option linter.unusedVariables false
set_option maxRecDepth 100000

def InTab (w : World) (v : Value) : Prop := ∃ (n : Int) (oa : Option Addr) (l c : Nat) (Ln : Nat → Nat), v = .agg #[.int .i64 n, .slice oa l c] ∧ RowsIn w oa l Ln
theorem RowsIn.keep {w w' : World} {oa : Option Addr} {l : Nat} {Ln : Nat → Nat} (h : RowsIn w oa l Ln) (hk : Below w.heap.size w w') : RowsIn w' oa l Ln :=
  ⟨h.len, fun h0 => by
    obtain ⟨b, off, e, hlt, hr⟩ := h.rows h0
    exact ⟨b, off, e, Nat.lt_of_lt_of_le hlt hk.size, fun r hrl => by
      obtain ⟨m, o, c, h1, h2⟩ := hr r hrl
      exact ⟨m, o, c, cell_keep h1 hk, fun hq => by
        obtain ⟨L, e1, e2⟩ := h2 hq
        exact ⟨L, e1, e2.keep hk⟩⟩⟩⟩
end Go.Proofs.YtcenndlbhgfdfaaDoor
namespace Go.Proofs.YtcenndlbhgfdfaaDoor
open Go.ChangeShapes Go.WideShapes Go.ChangeAt Go.RowKit Go.Joins
set_option linter.unusedVariables false
set_option maxRecDepth 100000

theorem rows_of_trod {H : Type} {enc : TypeId × Value → H} {W : World} {held : Bool} {fuel : Nat} {v : Value} {x : DataW H × List MemPlace} (hy1 : DataW.trod enc Tryd.prog W 0 (fun _ => true) held fuel 24 [v] = some x) : ∃ (oa : Option Addr) (l c : Nat) (Ln : Nat → Nat), v = .slice oa l c ∧ RowsIn W oa l Ln := by
  rcases Go.Deep.open_int_rows Tryd.underlying24 Tryd.underlying50 Tryd.underlying3 (by kernel_rfl) (by kernel_rfl) hy1 with ⟨hcs, _⟩ | ⟨a, len, cap, A, L, C, Z, hcs, _, hl, hm, _, hr⟩
  · simp at hcs
    subst hcs
    exact ⟨_, _, _, fun _ => 0, rfl, Nat.zero_le _, fun h => absurd h (by simp)⟩
  · simp at hcs
    subst hcs
    refine ⟨_, _, _, L, rfl, Nat.le_trans hl hm, fun h0 => ?_⟩
    obtain ⟨b, off, spot⟩ := a
    have hc := (hr 0 (by omega)).1
    have hspot : spot = none := by simpa [Addr.add] using World.cell?_spot hc
    subst hspot
    refine ⟨b, off, rfl, World.block_lt_of_cell? W ⟨b, off, none⟩ (by simpa [Addr.add] using hc), fun r hrl => ?_⟩
    obtain ⟨h1, h2, h3, h4, h5, h6, h7⟩ := hr r (by omega)
    rw [add_at] at h1
    refine ⟨Nat.le_trans h2 h3, A r, C r, h1, fun hroom => ?_⟩
    refine IsRow.ints (cap := C r) (zs := Z r) ?_ hroom
    cases hA : A r with
    | none =>
      have hz : C r = 0 := h6 hA
      refine .inl ⟨rfl, by omega, hz, List.eq_nil_of_length_eq_zero (by omega)⟩
    | some a' =>
      obtain ⟨_, hcell⟩ := h7 a' hA
      exact .inr ⟨a', rfl, h2, h3, h4, fun i hi => hcell i (by omega), h5⟩
def InSr (w : World) (v : Value) : Prop := ∃ (n m a t : Int) (oa : Option Addr) (l c : Nat) (Ln : Nat → Nat) (vD : Value), v = .agg #[.int .i64 n, .slice oa l c, .int .i64 m, .int .i64 a, vD, .int .i64 t] ∧ RowsIn w oa l Ln ∧ InDeps w vD
  ∧ (Lit.int .i64 m).wf = true ∧ (Lit.int .i64 a).wf = true ∧ (Lit.int .i64 t).wf = true
end Go.Proofs.YtcenndlbhgfdfaaDoor
namespace Go.Proofs.YtcenndlbhgfdfaaDoor
open Go.RowKit
set_option linter.unusedVariables false
set_option maxRecDepth 100000

def set8 (w : World) (g k : Nat) (a4 a5 b0 b1 b2 b3 b4 b5 : Value) : World := (((((((w.setCell ⟨g, 4, none⟩ a4).setCell ⟨g, 5, none⟩ a5).setCell ⟨k, 0, none⟩ b0).setCell ⟨k, 1, none⟩ b1).setCell ⟨k, 2, none⟩ b2).setCell ⟨k, 3, none⟩ b3).setCell ⟨k, 4, none⟩ b4).setCell ⟨k, 5, none⟩ b5
theorem far8 {w : World} {B : Nat} {v : Value} {xs : List Value} {R : List (List Int)} (h : OwnRows w B v xs R) {g k : Nat} (hg : g < B) (hk : k < B) (a4 a5 b0 b1 b2 b3 b4 b5 : Value) : OwnRows (set8 w g k a4 a5 b0 b1 b2 b3 b4 b5) B v xs R :=
  (((((((h.far_set 4 a4 hg).far_set 5 a5 hg).far_set 0 b0 hk).far_set 1 b1 hk).far_set 2 b2 hk).far_set 3 b3 hk).far_set 4 b4 hk).far_set 5 b5 hk
theorem OwnD.far_set {w : World} {B g : Nat} {v : Value} {D : List (Int × Int)} (h : OwnD w B v D) (j : Nat) (u : Value) (hg : g < B) : OwnD (w.setCell ⟨g, j, none⟩ u) B v D := ownsRow_setCell_below h (a := ⟨g, j, none⟩) hg u
theorem dar8 {w : World} {B : Nat} {v : Value} {D : List (Int × Int)} (h : OwnD w B v D) {g k : Nat} (hg : g < B) (hk : k < B) (a4 a5 b0 b1 b2 b3 b4 b5 : Value) : OwnD (set8 w g k a4 a5 b0 b1 b2 b3 b4 b5) B v D :=
  (((((((OwnD.far_set h 4 a4 hg).far_set 5 a5 hg).far_set 0 b0 hk).far_set 1 b1 hk).far_set 2 b2 hk).far_set 3 b3 hk).far_set 4 b4 hk).far_set 5 b5 hk
theorem bar8 {w0 w : World} {B : Nat} (h : Below B w0 w) {g k : Nat} (hg : B ≤ g) (hk : B ≤ k) (a4 a5 b0 b1 b2 b3 b4 b5 : Value) : Below B w0 (set8 w g k a4 a5 b0 b1 b2 b3 b4 b5) :=
  Below.setCell (p := ⟨k, 5, none⟩) (Below.setCell (p := ⟨k, 4, none⟩) (Below.setCell (p := ⟨k, 3, none⟩) (Below.setCell (p := ⟨k, 2, none⟩) (Below.setCell (p := ⟨k, 1, none⟩) (Below.setCell (p := ⟨k, 0, none⟩) (Below.setCell (p := ⟨g, 5, none⟩) (Below.setCell (p := ⟨g, 4, none⟩) h hg a4) hg a5) hk b0) hk b1) hk b2) hk b3) hk b4) hk b5
def srZ : Array Value := #[.int .i64 0, .slice none 0 0, .int .i64 0, .int .i64 0, .slice none 0 0, .int .i64 0]
end Go.Proofs.YtcenndlbhgfdfaaDoor
namespace Go.Proofs.YtcenndlbhgfdfaaDoor
open Go.RowKit
set_option linter.unusedVariables false
set_option maxRecDepth 100000

theorem compact_le (L : List Int) : (Lib.compact L).length ≤ L.length := Lib.compact_length_le L
theorem IntsAt.cellsAny {w : World} {oa : Option Addr} {L : List Int} {b off : Nat} {sp} (h : IntsAt w oa L) (e : oa = some ⟨b, off, sp⟩) (j : Nat) (u : Value) (hu : (L.map encI)[j]? = some u) : w.cell? ((⟨b, off, sp⟩ : Addr).add j) = some u := by
  have hj : j < L.length := by
    rcases Nat.lt_or_ge j L.length with h | h
    · exact h
    · rw [List.getElem?_eq_none (by simpa using h)] at hu; cases hu
  obtain ⟨b', off', e', _, hc⟩ := h.at_ (by omega)
  rw [e] at e'
  simp only [Option.some.injEq, Addr.mk.injEq] at e'
  obtain ⟨rfl, rfl, rfl⟩ := e'
  have ha : (⟨b, off, none⟩ : Addr).add j = ⟨b, off + j, none⟩ := by unfold Addr.add; split <;> simp_all
  rw [ha, hc j hj]
  rw [List.getElem?_map, nth_eq hj] at hu
  simpa [encI] using hu
theorem ones (L : List Int) : ∀ u ∈ L.map encI, u.oneCell' = true := by
  intro u hu
  obtain ⟨x, _, rfl⟩ := List.mem_map.1 hu
  rfl
end Go.Proofs.YtcenndlbhgfdfaaDoor
namespace Go.Proofs.YtcenndlbhgfdfaaDoor
open Go.RowKit
set_option linter.unusedVariables false
set_option maxRecDepth 100000

theorem drop_cons {L : List Int} {k : Nat} (h : k < L.length) : L.drop k = nth L k :: L.drop (k + 1) := by
  have e := nth_eq h
  rw [List.getElem?_eq_getElem h] at e
  injection e with e
  rw [List.drop_eq_getElem_cons h, e]
end Go.Proofs.YtcenndlbhgfdfaaDoor
namespace Go.Proofs.YtcenndlbhgfdfaaDoor
open Go.RowKit
set_option linter.unusedVariables false
set_option maxRecDepth 100000

theorem filter_take_succ (p : Int → Bool) (L : List Int) (k : Nat) (hk : k < L.length) : (L.take (k + 1)).filter p = (L.take k).filter p ++ (if p (nth L k) then [nth L k] else []) := by
  rw [List.take_add_one, nth_eq hk, List.filter_append]
  simp [List.filter_cons]
theorem bneI (x y : Int) : (x != y) = !(x == y) := rfl

end Go.Proofs.YtcenndlbhgfdfaaDoor
namespace Go.Proofs.YtcenndlbhgfdfaaDoor
open Go.RowKit
set_option linter.unusedVariables false
set_option maxRecDepth 100000

theorem min_step {L : List Int} {k : Nat} (hk : k < L.length) (hs : St (nth L k)) :
    flt (fun y => inB' (L.take (k + 1)) y && minB L y) 32 = (if minB L (nth L k) then putF (flt (fun y => inB' (L.take k) y && minB L y) 32) (nth L k) else flt (fun y => inB' (L.take k) y && minB L y) 32) := by
  have e : ∀ y, inB' (L.take (k + 1)) y = (inB' (L.take k) y || y == nth L k) := fun y => by
    unfold inB'
    rw [List.take_add_one, nth_eq hk]
    simp [Bool.decide_or]
    rfl
  split
  · next h =>
    rw [putF_flt _ hs]
    congr 1
    funext y
    rw [e]
    cases hy : (y == nth L k)
    · simp
    · have : y = nth L k := by simpa using hy
      rw [this, h]; simp
  · next h =>
    congr 1
    funext y
    rw [e]
    cases hy : (y == nth L k)
    · simp
    · have : y = nth L k := by simpa using hy
      rw [this]
      simp only [Bool.not_eq_true] at h
      rw [h]; simp
end Go.Proofs.YtcenndlbhgfdfaaDoor
namespace Go.Proofs.YtcenndlbhgfdfaaDoor
open Go.RowKit Go.Shelf Go.Lib Go.Sort
set_option linter.unusedVariables false
set_option maxRecDepth 100000

def pcN (x : Nat) : Nat := ((List.range 5).filter fun c => x.testBit c).length
def cfN (x y : Nat) : Int := if (pcN x : Int) = pcN y then (x : Int) - y else (pcN x : Int) - pcN y
theorem pcN_le (x : Nat) : pcN x ≤ 5 := by
  have := List.length_filter_le (fun c => x.testBit c) (List.range 5)
  simpa [pcN] using this
theorem u64_small : ∀ x < 32, IntKind.u64.wrap ((x : Nat) : Int) = ((x : Nat) : Int) := by decide +kernel
def fvS (x : Fin 32) : Value := .int .i64 (x.val : Int)
def cfS (x y : Fin 32) : Int := cfN x.val y.val
theorem ltS (x y : Fin 32) : ltOf cfS x y = decide (pcN x.val < pcN y.val ∨ (pcN x.val = pcN y.val ∧ x.val < y.val)) := by
  unfold ltOf cfS cfN
  rw [decide_eq_decide]
  split
  · next h => constructor <;> intro h' <;> omega
  · next h => constructor <;> intro h' <;> omega
theorem swoS : SWO (ltOf cfS) where
  irrefl x := by rw [ltS]; simp
  trans x y z h1 h2 := by rw [ltS] at *; simp only [decide_eq_true_eq] at *; omega
  ntrans x y z h1 h2 := by rw [ltS] at *; simp only [decide_eq_false_iff_not] at *; omega
theorem totS (x y : Fin 32) (h1 : ltOf cfS x y = false) (h2 : ltOf cfS y x = false) : x = y := by
  rw [ltS] at *
  simp only [decide_eq_false_iff_not] at *
  exact Fin.ext (by omega)
def sortS (L : List (Fin 32)) : List (Fin 32) := L.mergeSort fun x y => !(ltOf cfS) y x
def valS (L : List (Fin 32)) : List Int := L.map fun x => (x.val : Int)
theorem putRow_fin (w : World) (g : Nat) (L : List (Fin 32)) : putRow fvS w g 0 L.toArray = putRow (Value.int .i64) w g 0 (valS L).toArray := by
  unfold putRow
  congr 1
  funext c
  unfold putCells valS
  congr 1
  funext k x
  by_cases h : k < L.length
  · rw [if_pos (by simp; omega), if_pos (by simp; omega), getElem!_pos _ _ (by simp; omega), getElem!_pos _ _ (by simp; omega)]
    simp [fvS]
  · rw [if_neg (by simp; omega), if_neg (by simp; omega)]
def finsB (k : Nat) : List (Fin 32) := (List.range k).map fun i => Fin.ofNat 32 i
theorem flt_fin : ∀ N < 33, flt (fun _ => true) N = valS (finsB N) := by decide +kernel
def partsF (n : Int) : List Int := if 0 ≤ n ∧ n ≤ 5 then valS (sortS (finsB (2 ^ n.toNat))) else []
theorem partsF_mem {n : Int} (h0 : 0 ≤ n) (h5 : n ≤ 5) {x : Int} : x ∈ partsF n ↔ 0 ≤ x ∧ x < 2 ^ n.toNat := by
  have hp := pow_nat h0 h5
  unfold partsF
  rw [if_pos ⟨h0, h5⟩]
  have e : x ∈ valS (sortS (finsB (2 ^ n.toNat))) ↔ x ∈ valS (finsB (2 ^ n.toNat)) := by
    unfold valS sortS
    rw [List.mem_map, List.mem_map]
    constructor
    · rintro ⟨y, hy, e⟩; exact ⟨y, (List.mergeSort_perm _ _).mem_iff.1 hy, e⟩
    · rintro ⟨y, hy, e⟩; exact ⟨y, (List.mergeSort_perm _ _).mem_iff.2 hy, e⟩
  rw [e, ← flt_fin _ (by omega), flt_mem, hp.1]
  simp
theorem partsF_len (n : Int) : (partsF n).length ≤ 32 := by
  unfold partsF
  split
  · next h =>
    have hp := pow_nat h.1 h.2
    simp [valS, sortS, List.length_mergeSort, finsB]
    exact hp.2.1
  · simp
end Go.Proofs.YtcenndlbhgfdfaaDoor
namespace Go.Proofs.YtcenndlbhgfdfaaDoor
open Go.RowKit Go.Shelf Go.Lib Go.Sort
set_option linter.unusedVariables false
set_option maxRecDepth 100000

def szP (s : Nat) (x : Int) : Bool := ((membersF x).length : Int) == s
def bySize (n s : Nat) : List Int := (List.range s).flatMap fun t => flt (szP t) (2 ^ n)
theorem bySize_succ (n s : Nat) : bySize n (s + 1) = bySize n s ++ flt (szP s) (2 ^ n) := by unfold bySize; rw [List.range_succ, List.flatMap_append]; simp
theorem bySize_len (n s : Nat) (hn : n ≤ 5) : (bySize n s).length ≤ 32 * s := by
  induction s with
  | zero => simp [bySize]
  | succ s ih =>
    rw [bySize_succ, List.length_append]
    have := flt_le (szP s) (2 ^ n)
    have h : ∀ n < 6, 2 ^ n ≤ 32 := by decide
    have := h n (by omega)
    omega
def keyS (x : Fin 32) : Int := (pcN x.val : Int) * 32 + (x.val : Int)
theorem keyS_lt (x y : Fin 32) : ltOf cfS x y = decide (keyS x < keyS y) := by
  rw [ltS, decide_eq_decide]
  have h1 := x.isLt
  have h2 := y.isLt
  unfold keyS
  constructor <;> intro h <;> omega
theorem keyS_inj {x y : Fin 32} (h : keyS x = keyS y) : x = y := by
  have h1 := x.isLt
  have h2 := y.isLt
  unfold keyS at h
  exact Fin.ext (by omega)
theorem sortS_up {L : List (Fin 32)} (hd : L.Nodup) : Up ((sortS L).map keyS) := by
  unfold Up
  rw [List.pairwise_map]
  have h1 := List.pairwise_mergeSort (le := fun (x y : Fin 32) => !(ltOf cfS) y x) (fun a b c h1 h2 => by
    simp only [keyS_lt, Bool.not_eq_true', decide_eq_false_iff_not] at *; omega) (fun a b => by
    simp only [keyS_lt, Bool.or_eq_true, Bool.not_eq_true', decide_eq_false_iff_not]; omega) L
  have h2 : (sortS L).Nodup := (List.mergeSort_perm L _).nodup_iff.2 hd
  have h3 := h1.and h2
  refine h3.imp ?_
  rintro a b ⟨h, hne⟩
  simp only [keyS_lt, Bool.not_eq_true', decide_eq_false_iff_not] at h
  have : keyS a ≠ keyS b := fun e => hne (keyS_inj e)
  omega
def byF (n : Nat) : List (Fin 32) := (List.range (n + 1)).flatMap fun s => (finsB (2 ^ n)).filter fun x => pcN x.val == s
theorem byF_up : ∀ n < 6, Up ((byF n).map keyS) := by unfold Up; decide +kernel
theorem byF_mem : ∀ n < 6, ∀ x : Fin 32, x ∈ byF n ↔ x ∈ finsB (2 ^ n) := by decide +kernel
theorem byF_val : ∀ n < 6, valS (byF n) = bySize n (n + 1) := by decide +kernel
theorem finsB_nodup : ∀ n < 6, (finsB (2 ^ n)).Nodup := by decide +kernel
theorem map_inj : ∀ {A B : List (Fin 32)}, A.map keyS = B.map keyS → A = B
  | [], [], _ => rfl
  | [], b :: B, h => by simp at h
  | a :: A, [], h => by simp at h
  | a :: A, b :: B, h => by
    simp only [List.map_cons, List.cons.injEq] at h
    rw [keyS_inj h.1, map_inj h.2]
theorem parts_bySize (n : Nat) (hn : n ≤ 5) : partsF n = bySize n (n + 1) := by
  unfold partsF
  rw [if_pos ⟨by omega, by omega⟩, Int.toNat_natCast, ← byF_val n (by omega)]
  congr 1
  refine map_inj (up_ext (sortS_up (finsB_nodup n (by omega))) (byF_up n (by omega)) fun z => ?_)
  rw [List.mem_map, List.mem_map]
  constructor
  · rintro ⟨x, hx, e⟩; exact ⟨x, (byF_mem n (by omega) x).2 ((List.mergeSort_perm _ _).mem_iff.1 hx), e⟩
  · rintro ⟨x, hx, e⟩; exact ⟨x, (List.mergeSort_perm _ _).mem_iff.2 ((byF_mem n (by omega) x).1 hx), e⟩
end Go.Proofs.YtcenndlbhgfdfaaDoor
namespace Go.Proofs.YtcenndlbhgfdfaaDoor
open Go.RowKit
set_option linter.unusedVariables false
set_option maxRecDepth 100000

def anyIns (T : List Int) (x : Int) : Bool := T.any fun y => ins y x
def stepM (p : Int → Int → Bool) (r : Int) (T : List Int) (x : Int) : List Int := if (!hasc x r && !anyIns T x) && p x r then T ++ [x] else T
def takenF (p : Int → Int → Bool) (r : Int) (L : List Int) : List Int := L.foldl (stepM p r) []
def colF (p : Int → Int → Bool) (P : List Int) (r : Int) : List (Int × Int) := (takenF p r P).map fun x => (x, r)
def colsF (p : Int → Int → Bool) (P : List Int) (n : Nat) : List (Int × Int) := (List.range n).flatMap fun (r : Nat) => colF p P (r : Int)
theorem taken_succ (p : Int → Int → Bool) (r : Int) {L : List Int} {k : Nat} (h : k < L.length) : takenF p r (L.take (k + 1)) = stepM p r (takenF p r (L.take k)) (nth L k) := by
  unfold takenF
  rw [List.take_add_one, nth_eq h, List.foldl_append]; rfl
theorem stepM_len (p : Int → Int → Bool) (r : Int) (T : List Int) (x : Int) : (stepM p r T x).length ≤ T.length + 1 := by
  unfold stepM; split <;> simp
theorem taken_len (p : Int → Int → Bool) (r : Int) (L : List Int) : ∀ k, k ≤ L.length → (takenF p r (L.take k)).length ≤ k
  | 0, _ => by simp [takenF]
  | k + 1, h => by
    rw [taken_succ p r (by omega)]
    have h1 := taken_len p r L k (by omega)
    have h2 := stepM_len p r (takenF p r (L.take k)) (nth L k)
    omega
theorem colF_len (p : Int → Int → Bool) (P : List Int) (r : Int) : (colF p P r).length ≤ P.length := by
  unfold colF
  rw [List.length_map]
  have := taken_len p r P P.length (Nat.le_refl _)
  rw [List.take_length] at this
  exact this
theorem colsF_succ (p : Int → Int → Bool) (P : List Int) (n : Nat) : colsF p P (n + 1) = colsF p P n ++ colF p P n := by unfold colsF; rw [List.range_succ, List.flatMap_append]; simp
theorem colsF_len (p : Int → Int → Bool) (P : List Int) : ∀ n, (colsF p P n).length ≤ P.length * n
  | 0 => by simp [colsF]
  | n + 1 => by
    rw [colsF_succ, List.length_append, Nat.mul_succ]
    have h1 := colsF_len p P n
    have h2 := colF_len p P n
    omega
theorem own_snocD {w : World} {base : Nat} {v : Value} {A : List (Int × Int)} {l r : Int} (h : w.ownsRow base 28 2 v (A.length + 1) (dcells A ++ [.int .i64 l, .int .i64 r])) : OwnD w base v (A ++ [(l, r)]) := OwnD.joined (B := [(l, r)]) h
theorem OwnD.past {w w' : World} {base : Nat} {M v v' : Value} {L : List (Int × Int)} {o : Obj} (h : OwnD w base M L) (hg : (w.alloc o).grownBy w' v.ownBlock) (ha : Apart M v) (hf : Fresh (w.alloc o) v v') : OwnD w' base M L ∧ Apart M v' :=
  ⟨OwnD.far (World.ownsRow.alloc h o) hg ha, Apart.next (World.ownsRow.alloc h o) ha hf⟩
end Go.Proofs.YtcenndlbhgfdfaaDoor
namespace Go.Proofs.YtcenndlbhgfdfaaDoor
open Go.RowKit
set_option linter.unusedVariables false
set_option maxRecDepth 100000

def growOne (e x : Int) : List Int := if apart x e then (membersF e).map (fun c => uni x (one c)) else [x]
def grownF (L : List Int) (e : Int) : List Int := L.flatMap (growOne e)
def growOk (L : List Int) (e : Int) : Bool := (setsF L && decide (L.length ≤ 100)) && stB e
def growF (L : List Int) (e : Int) : List Int := if growOk L e then minF (distinctF (grownF L e)) else []
theorem growOne_len (e x : Int) : (growOne e x).length ≤ 5 := by
  unfold growOne
  split
  · rw [List.length_map]; exact members_len e
  · simp
theorem grown_succ {L : List Int} (e : Int) {k : Nat} (hk : k < L.length) : grownF (L.take (k + 1)) e = grownF (L.take k) e ++ growOne e (nth L k) := by
  unfold grownF
  rw [List.take_add_one, nth_eq hk, List.flatMap_append]
  simp
theorem grown_len (e : Int) : ∀ L : List Int, (grownF L e).length ≤ 5 * L.length
  | [] => by simp [grownF]
  | x :: L => by
    have h1 := growOne_len e x
    have h2 := grown_len e L
    have : grownF (x :: L) e = growOne e x ++ grownF L e := rfl
    rw [this, List.length_append, List.length_cons]
    omega
theorem growOne_st {e x : Int} (hx : St x) : ∀ y ∈ growOne e x, St y := by
  intro y hy
  unfold growOne at hy
  split at hy
  · obtain ⟨c, hc, rfl⟩ := List.mem_map.1 hy
    exact uni_st hx (one_st (members_co c hc).1)
  · simp at hy; subst hy; exact hx
theorem grown_st {L : List Int} {e : Int} (h : ∀ x ∈ L, St x) : ∀ y ∈ grownF L e, St y := by
  intro y hy
  obtain ⟨x, hx, hy⟩ := List.mem_flatMap.1 hy
  exact growOne_st (h x hx) y hy
theorem growF_len (L : List Int) (e : Int) : (growF L e).length ≤ Room := by
  unfold growF
  split
  · have := minF_len (distinctF (grownF L e)); unfold Room; omega
  · simp
theorem map_take_succ {f : Int → Int} {M : List Int} {j : Nat} (h : j < M.length) : (M.take (j + 1)).map f = (M.take j).map f ++ [f (nth M j)] := by
  rw [List.take_add_one, nth_eq h, List.map_append]; rfl

end Go.Proofs.YtcenndlbhgfdfaaDoor
namespace Go.Proofs.YtcenndlbhgfdfaaDoor
open Go.RowKit
set_option linter.unusedVariables false
set_option maxRecDepth 100000

def minP (p : Int → Bool) (x : Int) : Bool := (List.range 32).all fun (y : Nat) => !(p y && ins y x) || ((y : Int) == x)
def minL (p : Int → Bool) : List Int := flt (fun x => p x && minP p x) 32
theorem minP_iff {p : Int → Bool} {x : Int} : minP p x = true ↔ ∀ y, St y → p y = true → ins y x = true → y = x := by
  unfold minP
  rw [List.all_eq_true]
  constructor
  · intro h y hy hp hi
    obtain ⟨n, hn, rfl⟩ := st_nat hy
    have := h n (List.mem_range.2 hn)
    rw [hp, hi] at this
    simpa using this
  · intro h n hn
    have hs : St (n : Int) := by have := List.mem_range.1 hn; unfold St; omega
    cases hp : p n
    · simp
    · cases hi : ins n x
      · simp
      · have := h n hs hp hi
        simp [this]
theorem minL_mem {p : Int → Bool} {x : Int} : x ∈ minL p ↔ St x ∧ p x = true ∧ ∀ y, St y → p y = true → ins y x = true → y = x := by
  unfold minL
  rw [flt_mem, Bool.and_eq_true, minP_iff]
  constructor
  · rintro ⟨h, h1, h2⟩; exact ⟨by unfold St; omega, h1, h2⟩
  · rintro ⟨h, h1, h2⟩; exact ⟨by unfold St at h; omega, h1, h2⟩
theorem exists_min {p : Int → Bool} : ∀ (k : Nat) (z : Int), card z ≤ k → St z → p z = true → ∃ x, x ∈ minL p ∧ ins x z = true
  | k, z, hk, hz, hp => by
    by_cases hm : minP p z = true
    · exact ⟨z, minL_mem.2 ⟨hz, hp, minP_iff.1 hm⟩, ins_refl hz⟩
    · have : ∃ y, St y ∧ p y = true ∧ ins y z = true ∧ y ≠ z := by
        refine Classical.byContradiction fun hn => hm (minP_iff.2 fun y hy h1 h2 => ?_)
        exact Classical.byContradiction fun hne => hn ⟨y, hy, h1, h2, hne⟩
      obtain ⟨y, hy, h1, h2, hne⟩ := this
      have hc := card_lt hy hz h2 hne
      match k, hk with
      | 0, hk => omega
      | k + 1, hk =>
        obtain ⟨x, hx, hxy⟩ := exists_min k y (by omega) hy h1
        exact ⟨x, hx, ins_trans (minL_mem.1 hx).1 hy hz hxy h2⟩
theorem minB_iff {G : List Int} {x : Int} : minB G x = true ↔ ∀ y ∈ G, ins y x = true → y = x := by
  unfold minB
  rw [List.all_eq_true]
  constructor
  · intro h y hy hi
    have := h y hy
    rw [hi] at this
    simp at this
    exact this.symm
  · intro h y hy
    cases hi : ins y x
    · simp
    · simp [h y hy hi]
/-- What lies in the family, and below all of it, has its minimal sets. -/
theorem minF_family {G : List Int} {p : Int → Bool} (hl : G.length ≤ 100) (h1 : ∀ x ∈ G, St x ∧ p x = true) (h2 : ∀ z, St z → p z = true → ∃ g ∈ G, ins g z = true) : minF G = minL p := by
  have hs : setsF G = true := List.all_eq_true.2 fun x hx => by simpa [stB] using (h1 x hx).1
  rw [minF_sets hs hl]
  refine up_ext (flt_up _ _) (flt_up _ _) fun x => ?_
  rw [flt_mem, minL_mem, Bool.and_eq_true, minB_iff]
  constructor
  · rintro ⟨_, hx, hm⟩
    have hx : x ∈ G := by simpa [inB'] using hx
    obtain ⟨sx, px⟩ := h1 x hx
    refine ⟨sx, px, fun y sy py hy => ?_⟩
    obtain ⟨g, hg, hgy⟩ := h2 y sy py
    have sg := (h1 g hg).1
    have e := hm g hg (ins_trans sg sy sx hgy hy)
    subst e
    exact ins_antisymm sy sx hy hgy
  · rintro ⟨sx, px, hm⟩
    obtain ⟨g, hg, hgx⟩ := h2 x sx px
    obtain ⟨sg, pg⟩ := h1 g hg
    have e := hm g sg pg hgx
    subst e
    exact ⟨by unfold St at sx; omega, by simpa [inB'] using hg, fun y hy hi => hm y (h1 y hy).1 (h1 y hy).2 hi⟩
theorem apart_iff {e x : Int} (he : St e) (hx : St x) : apart e x = false ↔ ∃ c, Co c ∧ hasc e c = true ∧ hasc x c = true := by
  obtain ⟨n, hn, rfl⟩ := st_nat he; obtain ⟨m, hm, rfl⟩ := st_nat hx
  have h : ∀ n < 32, ∀ m < 32, (apart ((n : Nat) : Int) ((m : Nat) : Int) = false ↔ ∃ c < 5, hasc (n : Nat) (c : Nat) = true ∧ hasc (m : Nat) (c : Nat) = true) := by decide +kernel
  rw [h n hn m hm]
  constructor
  · rintro ⟨c, hc, h⟩; exact ⟨c, by unfold Co; omega, h⟩
  · rintro ⟨c, hc, h⟩; obtain ⟨k, hk, rfl⟩ := co_nat hc; exact ⟨k, hk, h⟩
theorem apart_up {e x y : Int} (he : St e) (hx : St x) (hy : St y) (hi : ins x y = true) (h : apart e x = false) : apart e y = false := by
  obtain ⟨c, hc, h1, h2⟩ := (apart_iff he hx).1 h
  exact (apart_iff he hy).2 ⟨c, hc, h1, (ins_iff hx hy).1 hi c hc h2⟩
theorem apart_comm {e x : Int} (he : St e) (hx : St x) : apart e x = apart x e := by
  cases h : apart x e
  · obtain ⟨c, hc, h1, h2⟩ := (apart_iff hx he).1 h
    exact (apart_iff he hx).2 ⟨c, hc, h2, h1⟩
  · cases h' : apart e x
    · obtain ⟨c, hc, h1, h2⟩ := (apart_iff he hx).1 h'
      rw [(apart_iff hx he).2 ⟨c, hc, h2, h1⟩] at h; cases h
    · rfl
theorem membersT_mem {e c : Int} (he : St e) (hc : Co c) (h : hasc e c = true) : c ∈ membersF e := by
  unfold membersF
  rw [if_pos (by simpa [stB] using he)]
  obtain ⟨k, hk, rfl⟩ := co_nat hc
  unfold membersUpTo
  exact List.mem_filter.2 ⟨List.mem_map.2 ⟨k, List.mem_range.2 hk, rfl⟩, h⟩
def UpC (p : Int → Bool) : Prop := ∀ x y, St x → St y → ins x y = true → p x = true → p y = true
theorem growF_minL {p : Int → Bool} {e : Int} (he : St e) (hup : UpC p) : growF (minL p) e = minL (fun x => p x && !apart e x) := by
  have hmem : ∀ x ∈ minL p, St x := fun x hx => (minL_mem.1 hx).1
  have hlen : (minL p).length ≤ 32 := flt_le _ _
  have hok : growOk (minL p) e = true := by
    unfold growOk
    have h1 : setsF (minL p) = true := List.all_eq_true.2 fun x hx => by simpa [stB] using hmem x hx
    have h2 : stB e = true := by simpa [stB] using he
    rw [h1, h2]; simp; omega
  unfold growF
  rw [if_pos hok]
  have hg := grown_st (e := e) hmem
  have hdm : ∀ y, y ∈ distinctF (grownF (minL p) e) ↔ y ∈ grownF (minL p) e := (distinctF_up _).2
  refine minF_family ?_ ?_ ?_
  · rw [distinctF_flt hg]; exact Nat.le_trans (flt_le _ _) (by omega)
  · intro y hy
    rw [hdm] at hy
    refine ⟨hg y hy, ?_⟩
    obtain ⟨x, hx, hy'⟩ := List.mem_flatMap.1 hy
    obtain ⟨sx, px, _⟩ := minL_mem.1 hx
    unfold growOne at hy'
    split at hy'
    · obtain ⟨c, hc, rfl⟩ := List.mem_map.1 hy'
      obtain ⟨cc, ch⟩ := members_co c hc
      have su := uni_st sx (one_st cc)
      have h1 := hup x _ sx su (ins_uni_left sx (one_st cc)) px
      have h2 : apart e (uni x (one c)) = false := (apart_iff he su).2 ⟨c, cc, ch, by rw [hasc_uni sx (one_st cc) cc, hasc_one cc cc]; simp⟩
      rw [h1, h2]; rfl
    · next hna =>
      simp at hy'
      subst hy'
      have h2 : apart e y = false := by rw [apart_comm he sx]; simpa using hna
      rw [px, h2]; rfl
  · intro z sz pz
    have hpz : p z = true ∧ apart e z = false := by simpa using pz
    obtain ⟨x, hx, hxz⟩ := exists_min (p := p) (card z) z (Nat.le_refl _) sz hpz.1
    have sx := hmem x hx
    cases ha : apart x e
    · exact ⟨x, (hdm x).2 (List.mem_flatMap.2 ⟨x, hx, by unfold growOne; rw [ha]; simp⟩), hxz⟩
    · obtain ⟨c, cc, h1, h2⟩ := (apart_iff he sz).1 hpz.2
      refine ⟨uni x (one c), (hdm _).2 (List.mem_flatMap.2 ⟨x, hx, ?_⟩), uni_ins sx (one_st cc) sz hxz (one_ins cc sz h2)⟩
      unfold growOne
      rw [ha]
      exact List.mem_map.2 ⟨c, membersT_mem he cc h1, rfl⟩
theorem hitsF_up {L : List Int} (h : ∀ e ∈ L, St e) : UpC (hitsF L) := by
  intro x y sx sy hi hx
  unfold hitsF at hx ⊢
  rw [List.all_eq_true] at hx ⊢
  intro e he
  have := hx e he
  have h2 := apart_up (h e he) sx sy hi (by simpa using this)
  rw [h2]; rfl
theorem hits_snoc (L : List Int) (e : Int) : hitsF (L ++ [e]) = fun x => hitsF L x && !apart e x := by
  funext x
  unfold hitsF
  rw [List.all_append]
  simp
theorem minL_all : minL (hitsF []) = [0] := by decide +kernel
theorem grow_fold {L : List Int} (h : ∀ e ∈ L, St e) (k : Nat) (hk : k ≤ L.length) : (L.take k).foldl growF [0] = minL (hitsF (L.take k)) := by
  induction k with
  | zero => rw [List.take_zero, minL_all]; rfl
  | succ k ih =>
    have hlt : k < L.length := by omega
    have e1 : L.take (k + 1) = L.take k ++ [nth L k] := by rw [List.take_add_one, nth_eq hlt]; rfl
    rw [e1, List.foldl_append, ih (by omega), hits_snoc]
    exact growF_minL (h _ (List.mem_iff_getElem?.2 ⟨k, nth_eq hlt⟩)) (hitsF_up fun e he => h e (List.mem_of_mem_take he))
theorem low_nat : ∀ m < 6, ∀ q < 32, ∀ d < 32, (decide (((d : Nat) : Int) < 2 ^ ((m : Nat) : Int).toNat) && !apart ((d : Nat) : Int) ((q : Nat) : Int) && apart ((d : Nat) : Int) (cap ((q : Nat) : Int) (2 ^ ((m : Nat) : Int).toNat - 1))) = false := by decide +kernel
theorem low_part {n : Int} (h0 : 0 ≤ n) (h5 : n ≤ 5) {e z : Int} (sz : St z) (he1 : 0 ≤ e) (he2 : e < 2 ^ n.toNat) (ha : apart e z = false) : apart e (cap z (2 ^ n.toNat - 1)) = false := by
  obtain ⟨m, rfl⟩ := Int.eq_ofNat_of_zero_le h0
  obtain ⟨q, hq, rfl⟩ := st_nat sz
  obtain ⟨d, rfl⟩ := Int.eq_ofNat_of_zero_le he1
  have hm : m < 6 := by omega
  have h32 : ∀ m < 6, (2 : Int) ^ ((m : Nat) : Int).toNat ≤ 32 := by decide
  have hd : d < 32 := by have := h32 m hm; omega
  have h := low_nat m hm q hq d hd
  rw [ha, decide_eq_true he2] at h
  simpa using h
theorem low_ins {n : Int} (h0 : 0 ≤ n) (h5 : n ≤ 5) {z : Int} (sz : St z) : 0 ≤ cap z (2 ^ n.toNat - 1) ∧ cap z (2 ^ n.toNat - 1) < 2 ^ n.toNat ∧ ins (cap z (2 ^ n.toNat - 1)) z = true := by
  obtain ⟨m, rfl⟩ := Int.eq_ofNat_of_zero_le h0
  obtain ⟨q, hq, rfl⟩ := st_nat sz
  have h : ∀ m < 6, ∀ q < 32, (0 ≤ cap ((q : Nat) : Int) (2 ^ ((m : Nat) : Int).toNat - 1) ∧ cap ((q : Nat) : Int) (2 ^ ((m : Nat) : Int).toNat - 1) < 2 ^ ((m : Nat) : Int).toNat ∧ ins (cap ((q : Nat) : Int) (2 ^ ((m : Nat) : Int).toNat - 1)) ((q : Nat) : Int) = true) := by decide +kernel
  exact h m (by omega) q hq
def transOk (L : List Int) (n : Int) : Bool := decide (0 ≤ n) && decide (n ≤ 5) && decide (L.length ≤ 100) && L.all (isAttr n)
def transF (L : List Int) (n : Int) : List Int := if transOk L n then minF (flt (hitsF L) (2 ^ n.toNat)) else []
theorem trans_edges {L : List Int} {n : Int} (h : transOk L n = true) : 0 ≤ n ∧ n ≤ 5 ∧ L.length ≤ 100 ∧ ∀ e ∈ L, 0 ≤ e ∧ e < 2 ^ n.toNat := by
  unfold transOk at h
  simp only [Bool.and_eq_true, decide_eq_true_eq] at h
  refine ⟨h.1.1.1, h.1.1.2, h.1.2, fun e he => ?_⟩
  have := List.all_eq_true.1 h.2 e he
  unfold isAttr at this
  simp only [Bool.and_eq_true, decide_eq_true_eq] at this
  exact ⟨this.1.2, this.2⟩
theorem trans_st {L : List Int} {n : Int} (h : transOk L n = true) : ∀ e ∈ L, St e := by
  obtain ⟨h0, h5, _, he⟩ := trans_edges h
  intro e hm
  have := he e hm
  have h2 := (pow_wrap h0 h5).2.1
  exact ⟨this.1, by omega⟩
theorem transF_fold {L : List Int} {n : Int} (h : transOk L n = true) : transF L n = L.foldl growF [0] := by
  obtain ⟨h0, h5, hl, he⟩ := trans_edges h
  have hst := trans_st h
  have hp := pow_nat h0 h5
  have hf := grow_fold hst L.length (Nat.le_refl _)
  rw [List.take_length] at hf
  rw [hf]
  unfold transF
  rw [if_pos h]
  have hlen := flt_le (hitsF L) (2 ^ n.toNat)
  refine minF_family (by omega) (fun x hx => ?_) (fun z sz hz => ?_)
  · obtain ⟨⟨a, b⟩, c⟩ := flt_mem.1 hx
    exact ⟨⟨a, by have := hp.2.1; omega⟩, c⟩
  · obtain ⟨a, b, c⟩ := low_ins h0 h5 sz
    refine ⟨cap z (2 ^ n.toNat - 1), flt_mem.2 ⟨⟨a, by rw [hp.1]; exact b⟩, ?_⟩, c⟩
    unfold hitsF at hz ⊢
    rw [List.all_eq_true] at hz ⊢
    intro e hm
    have h1 := hz e hm
    rw [low_part h0 h5 sz (he e hm).1 (he e hm).2 (by simpa using h1)]; rfl
theorem transF_len (L : List Int) (n : Int) : (transF L n).length ≤ Room := by
  unfold transF
  split
  · have := minF_len (flt (hitsF L) (2 ^ n.toNat)); unfold Room; omega
  · simp
end Go.Proofs.YtcenndlbhgfdfaaDoor
namespace Go.Proofs.YtcenndlbhgfdfaaDoor
open Go.RowKit
set_option linter.unusedVariables false
set_option maxRecDepth 100000

def isMinF (n : Int) (R : List (List Int)) (m l r : Int) : Bool :=
  askF n R m l r && (holdsF R m l r && (!hasc l r && (membersF l).all fun c => !holdsF R m (dif l (one c)) r))
theorem dif_le {x c : Int} (hx : St x) (hc : Co c) : 0 ≤ dif x (one c) ∧ dif x (one c) ≤ x := by
  obtain ⟨n, hn, rfl⟩ := st_nat hx; obtain ⟨k, hk, rfl⟩ := co_nat hc
  have h : ∀ n < 32, ∀ k < 5, 0 ≤ dif ((n : Nat) : Int) (one ((k : Nat) : Int)) ∧ dif ((n : Nat) : Int) (one ((k : Nat) : Int)) ≤ ((n : Nat) : Int) := by decide +kernel
  exact h n hn k hk
theorem ask_less {n : Int} {R : List (List Int)} {m l r c : Int} (h : askF n R m l r = true) (hc : Co c) : askF n R m (dif l (one c)) r = true := by
  unfold askF at h ⊢
  simp only [Bool.and_eq_true] at h ⊢
  obtain ⟨⟨ht, hm⟩, hd⟩ := h
  obtain ⟨hl, hr⟩ := dep_of hd (isTab_of ht).2.1
  refine ⟨⟨ht, hm⟩, ?_⟩
  have h2 := dif_le hl hc
  unfold isDepF isAttr at hd ⊢
  simp only [Bool.and_eq_true, decide_eq_true_eq] at hd ⊢
  obtain ⟨⟨⟨a, ⟨⟨b, c'⟩, d⟩, e⟩, f⟩, g⟩ := hd
  exact ⟨⟨⟨a, ⟨⟨b, c'⟩, h2.1⟩, by omega⟩, f⟩, g⟩

end Go.Proofs.YtcenndlbhgfdfaaDoor
namespace Go.Proofs.YtcenndlbhgfdfaaDoor
open Go.RowKit
set_option linter.unusedVariables false
set_option maxRecDepth 100000

/-- what l7Minimal says -/
def l7F (n : Int) (R : List (List Int)) (m l r : Int) : Bool := !hasc l r && (holdsF R m l r && (membersUpTo l n.toNat).all fun c => !holdsF R m (dif l (one c)) r)
theorem members_below {n l : Int} (h0 : 0 ≤ n) (h5 : n ≤ 5) (hl : 0 ≤ l) (hn : l < 2 ^ n.toNat) : membersUpTo l n.toNat = membersF l := by
  obtain ⟨k, rfl⟩ := Int.eq_ofNat_of_zero_le h0
  obtain ⟨x, rfl⟩ := Int.eq_ofNat_of_zero_le hl
  have hk : k < 6 := by omega
  have h32 : ∀ m < 6, (2 : Int) ^ ((m : Nat) : Int).toNat ≤ 32 := by decide
  have hx : x < 32 := by have := h32 k hk; omega
  have h : ∀ k < 6, ∀ x < 32, ((x : Nat) : Int) < 2 ^ ((k : Nat) : Int).toNat → membersUpTo ((x : Nat) : Int) ((k : Nat) : Int).toNat = membersF ((x : Nat) : Int) := by decide +kernel
  exact h k hk x hx hn
theorem isMin_l7 {n : Int} {R : List (List Int)} {m l r : Int} (h : askF n R m l r = true) : isMinF n R m l r = l7F n R m l r := by
  have h' := h
  unfold askF at h'
  simp only [Bool.and_eq_true] at h'
  have h5 := (isTab_of h'.1.1).2.1
  have hd := h'.2
  unfold isDepF isAttr at hd
  simp only [Bool.and_eq_true, decide_eq_true_eq] at hd
  unfold isMinF l7F
  rw [h, members_below (by omega) h5 hd.1.1.2.1.2 hd.1.1.2.2]
  cases hasc l r <;> cases holdsF R m l r <;> rfl
end Go.Proofs.YtcenndlbhgfdfaaDoor
namespace Go.Proofs.YtcenndlbhgfdfaaDoor
open Go.RowKit
set_option linter.unusedVariables false
set_option maxRecDepth 100000

def keyI (x : Int) : Int := (card x : Int) * 32 + x
theorem keyI_fin : ∀ x : Fin 32, keyI (x.val : Int) = keyS x := by decide +kernel
theorem parts_up {N : Nat} (hN : N ≤ 5) : Up ((partsF N).map keyI) := by
  unfold partsF
  rw [if_pos ⟨by omega, by omega⟩, Int.toNat_natCast]
  have h := sortS_up (finsB_nodup N (by omega))
  unfold valS
  rw [List.map_map]
  have e : (keyI ∘ fun (x : Fin 32) => (x.val : Int)) = keyS := funext keyI_fin
  rw [e]
  exact h
theorem up_index {P : List Int} {f : Int → Int} (h : Up (P.map f)) {k : Nat} (hk : k < P.length) : (∀ z ∈ P, f z < f (nth P k) → z ∈ P.take k) ∧ ∀ y ∈ P.take k, f y < f (nth P k) := by
  unfold Up at h
  rw [List.pairwise_map, List.pairwise_iff_getElem] at h
  have ek : P[k] = nth P k := by have := nth_eq hk; rw [List.getElem?_eq_getElem hk] at this; injection this
  constructor
  · intro z hz hlt
    obtain ⟨j, hj, e⟩ := List.mem_iff_getElem.1 hz
    rcases Nat.lt_or_ge j k with h' | h'
    · exact List.mem_iff_getElem.2 ⟨j, by rw [List.length_take]; omega, by rw [List.getElem_take]; exact e⟩
    · exfalso
      rcases Nat.lt_or_ge k j with h'' | h''
      · have := h k j hk hj h''
        rw [ek, e] at this
        omega
      · have : j = k := by omega
        subst this
        rw [ek] at e
        rw [e] at hlt
        omega
  · intro y hy
    obtain ⟨j, hj, e⟩ := List.mem_iff_getElem.1 hy
    rw [List.length_take] at hj
    rw [List.getElem_take] at e
    have := h j k (by omega) hk (by omega)
    rw [e, ek] at this
    exact this
theorem viol_down {R : List (List Int)} {m r x y : Int} {i k : Nat} (hx : St x) (hy : St y) (hA : (row R i).length ≤ 5) (hi : ins x y = true) (h : violF R m y r i k = true) : violF R m x r i k = true := by
  unfold violF at h ⊢
  simp only [Bool.and_eq_true] at h ⊢
  exact ⟨ins_trans hx hy (agreeF_st hA) hi h.1, h.2⟩
theorem holds_up {R : List (List Int)} {m r x y : Int} (hR : ∀ i, i < R.length → (row R i).length ≤ 5) (hx : St x) (hy : St y) (hi : ins x y = true) (h : holdsF R m x r = true) : holdsF R m y r = true := by
  unfold holdsF at h ⊢
  rw [decide_eq_true_eq] at h ⊢
  intro i hil k hk hik
  cases hv : violF R m y r i k
  · rfl
  · have := viol_down (k := k) hx hy (hR i hil) hi hv
    rw [h i hil k hk hik] at this
    cases this
theorem le_of_ins {x y : Int} (hx : St x) (hy : St y) (h : ins x y = true) : x ≤ y := by
  obtain ⟨n, hn, rfl⟩ := st_nat hx; obtain ⟨k, hk, rfl⟩ := st_nat hy
  have h' : ∀ n < 32, ∀ k < 32, ins ((n : Nat) : Int) ((k : Nat) : Int) = true → n ≤ k := by decide +kernel
  have := h' n hn k hk h
  omega
theorem ins_dif {y x c : Int} (hy : St y) (hx : St x) (hc : Co c) (h : ins y x = true) (hn : hasc y c = false) : ins y (dif x (one c)) = true :=
  (ins_iff hy (dif_st hx (one_st hc))).2 fun d hd hyd => by
    rw [hasc_dif hx (one_st hc) hd, hasc_one hc hd, (ins_iff hy hx).1 h d hd hyd]
    have : c ≠ d := fun e => by subst e; rw [hn] at hyd; cases hyd
    simp [this]
theorem dif_ins {x c : Int} (hx : St x) (hc : Co c) : ins (dif x (one c)) x = true :=
  (ins_iff (dif_st hx (one_st hc)) hx).2 fun d hd h => by
    rw [hasc_dif hx (one_st hc) hd] at h
    simp only [Bool.and_eq_true] at h
    exact h.1
theorem dif_not {x c : Int} (hx : St x) (hc : Co c) : hasc (dif x (one c)) c = false := by
  rw [hasc_dif hx (one_st hc) hc, hasc_one hc hc]; simp
theorem lacks {x y : Int} (hx : St x) (hy : St y) (h : ins y x = true) (hne : y ≠ x) : ∃ c, Co c ∧ hasc x c = true ∧ hasc y c = false := by
  refine Classical.byContradiction fun hn => hne (set_ext hy hx fun c hc => ?_)
  cases e : hasc x c
  · cases e' : hasc y c
    · rfl
    · rw [(ins_iff hy hx).1 h c hc e'] at e; cases e
  · cases e' : hasc y c
    · exact absurd ⟨c, hc, e, e'⟩ hn
    · rfl
theorem taken_filter {N : Nat} {R : List (List Int)} {m r : Int} (hN : N ≤ 5) (hR : ∀ i, i < R.length → (row R i).length ≤ 5) (hr : 0 ≤ r ∧ r < 5) :
    ∀ k, k ≤ (partsF N).length → takenF (fun x r => holdsF R m x r) r ((partsF N).take k) = ((partsF N).take k).filter fun x => l7F N R m x r
  | 0, _ => by simp [takenF]
  | k + 1, hk => by
    have hlt : k < (partsF N).length := by omega
    rw [taken_succ _ _ hlt, taken_filter hN hR hr k (by omega), filter_take_succ _ _ _ hlt]
    have hup := up_index (parts_up hN) hlt
    have hxm : nth (partsF N) k ∈ partsF N := List.mem_iff_getElem?.2 ⟨k, nth_eq hlt⟩
    generalize nth (partsF N) k = x at *
    have hpm : ∀ z, z ∈ partsF N ↔ 0 ≤ z ∧ z < 2 ^ N := fun z => by
      have := partsF_mem (n := (N : Int)) (by omega) (by omega) (x := z)
      rw [Int.toNat_natCast] at this
      exact this
    have h32 := (pow_wrap (n := (N : Int)) (by omega) (by omega)).2.1
    rw [Int.toNat_natCast] at h32
    have hxr := (hpm x).1 hxm
    have sx : St x := ⟨hxr.1, by omega⟩
    have key : ((!hasc x r && !anyIns (((partsF N).take k).filter fun x => l7F N R m x r) x) && holdsF R m x r) = l7F N R m x r := by
      have hmb : membersUpTo x N = membersF x := by
        have := members_below (n := (N : Int)) (by omega) (by omega) hxr.1 (by rw [Int.toNat_natCast]; exact hxr.2)
        rw [Int.toNat_natCast] at this
        exact this
      rw [Bool.eq_iff_iff]
      generalize hTl : ((partsF N).take k).filter (fun x => l7F N R m x r) = Tl
      unfold l7F
      rw [Int.toNat_natCast, hmb]
      simp only [Bool.and_eq_true, Bool.not_eq_true', List.all_eq_true]
      constructor
      · rintro ⟨⟨h1, h2⟩, h3⟩
        refine ⟨h1, h3, fun c hc => ?_⟩
        obtain ⟨cc, ch⟩ := members_co c hc
        cases hd : holdsF R m (dif x (one c)) r
        · rfl
        · exfalso
          have sd := dif_st sx (one_st cc)
          obtain ⟨z, hz, hzi⟩ := exists_min (p := fun y => holdsF R m y r) (card (dif x (one c))) (dif x (one c)) (Nat.le_refl _) sd hd
          obtain ⟨sz, pz, mz⟩ := minL_mem.1 hz
          have hzx := ins_trans sz sd sx hzi (dif_ins sx cc)
          have hzr : hasc z r = false := by
            cases e : hasc z r
            · rfl
            · rw [(ins_iff sz sx).1 hzx r hr e] at h1; cases h1
          have hne : z ≠ x := fun e => by
            subst e
            have := (ins_iff sz sd).1 hzi c cc ch
            rw [dif_not sz cc] at this; cases this
          have hzl := le_of_ins sz sx hzx
          have hzm : z ∈ partsF N := (hpm z).2 ⟨sz.1, by omega⟩
          have hcard := card_lt sz sx hzx hne
          have hzt := hup.1 z hzm (by unfold keyI; omega)
          have hz7 : l7F N R m z r = true := by
            have hmz : membersUpTo z N = membersF z := by
              have := members_below (n := (N : Int)) (by omega) (by omega) sz.1 (by rw [Int.toNat_natCast]; omega)
              rw [Int.toNat_natCast] at this
              exact this
            unfold l7F
            rw [Int.toNat_natCast, hmz]
            simp only [Bool.and_eq_true, Bool.not_eq_true', List.all_eq_true]
            refine ⟨hzr, pz, fun c' hc' => ?_⟩
            obtain ⟨cc', ch'⟩ := members_co c' hc'
            cases hd' : holdsF R m (dif z (one c')) r
            · rfl
            · exfalso
              have := mz _ (dif_st sz (one_st cc')) hd' (dif_ins sz cc')
              have h4 := dif_not sz cc'
              rw [this, ch'] at h4; cases h4
          have : anyIns Tl x = true := List.any_eq_true.2 ⟨z, by rw [← hTl]; exact List.mem_filter.2 ⟨hzt, hz7⟩, hzx⟩
          rw [this] at h2; cases h2
      · rintro ⟨h1, h3, h4⟩
        refine ⟨⟨h1, ?_⟩, h3⟩
        cases ha : anyIns Tl x
        · rfl
        · exfalso
          obtain ⟨y, hy, hyx⟩ := List.any_eq_true.1 ha
          rw [← hTl] at hy
          obtain ⟨hyt, hy7⟩ := List.mem_filter.1 hy
          have hyr := (hpm y).1 (List.mem_of_mem_take hyt)
          have sy : St y := ⟨hyr.1, by omega⟩
          have hlt2 := hup.2 y hyt
          have hne : y ≠ x := fun e => by subst e; omega
          obtain ⟨c, cc, cx, cy⟩ := lacks sx sy hyx hne
          have hpy : holdsF R m y r = true := by
            unfold l7F at hy7
            simp only [Bool.and_eq_true] at hy7
            exact hy7.2.1
          have := holds_up hR sy (dif_st sx (one_st cc)) (ins_dif sy sx cc hyx cy) hpy
          rw [h4 c (membersT_mem sx cc cx)] at this
          cases this
    unfold stepM
    rw [key]
    split
    · rfl
    · simp
def minDepsF (n : Int) (R : List (List Int)) (m : Int) : List (Int × Int) := if isTabF n R && modeF m then colsF (fun x r => holdsF R m x r) (partsF n) n.toNat else []
def colG (n : Int) (R : List (List Int)) (m : Int) (L : List Int) (r : Int) : List (Int × Int) := (L.filter fun x => l7F n R m x r).map fun x => (x, r)
def colsG (n : Int) (R : List (List Int)) (m : Int) (k : Nat) : List (Int × Int) := (List.range k).flatMap fun (r : Nat) => colG n R m (partsF n) (r : Int)
theorem colsG_succ (n : Int) (R : List (List Int)) (m : Int) (k : Nat) : colsG n R m (k + 1) = colsG n R m k ++ colG n R m (partsF n) k := by unfold colsG; rw [List.range_succ, List.flatMap_append]; simp
theorem cols_same {N : Nat} {R : List (List Int)} {m : Int} (hN : N ≤ 5) (hR : ∀ i, i < R.length → (row R i).length ≤ 5) : ∀ k, k ≤ N → colsF (fun x r => holdsF R m x r) (partsF N) k = colsG N R m k
  | 0, _ => by simp [colsF, colsG]
  | k + 1, hk => by
    rw [colsF_succ, colsG_succ, cols_same hN hR k (by omega)]
    congr 1
    unfold colF colG
    have h := taken_filter (m := m) (r := (k : Int)) hN hR (by omega) (partsF N).length (Nat.le_refl _)
    rw [List.take_length] at h
    rw [h]
theorem minDeps_len (n : Int) (R : List (List Int)) (m : Int) : (minDepsF n R m).length ≤ Room := by
  unfold minDepsF
  split
  · next h =>
    simp only [Bool.and_eq_true] at h
    obtain ⟨h1, h5, _, _⟩ := isTab_of h.1
    have a := colsF_len (fun x r => holdsF R m x r) (partsF n) n.toNat
    have b := partsF_len n
    have c : (partsF n).length * n.toNat ≤ 32 * 5 := Nat.mul_le_mul b (by omega)
    unfold Room; omega
  · simp
end Go.Proofs.YtcenndlbhgfdfaaDoor
namespace Go.Proofs.YtcenndlbhgfdfaaDoor
open Go.RowKit
set_option linter.unusedVariables false
set_option maxRecDepth 100000

def candF (N k : Nat) : Int × Int := (nth (partsF N) (k / N), ((k % N : Nat) : Int))
def covS (F : List (Int × Int)) (x r : Int) : Bool := F.any fun o => (o.2 == r) && ins o.1 x
def stepF (R : List (List Int)) (m : Int) (N k : Nat) (z : List (Int × Int) × Int) : List (Int × Int) × Int :=
  if hasc (candF N k).1 (candF N k).2 || covS z.1 (candF N k).1 (candF N k).2 then z else (if holdsF R m (candF N k).1 (candF N k).2 then z.1 ++ [((candF N k).1, (candF N k).2)] else z.1, z.2 + 1)
def repF (R : List (List Int)) (m : Int) (N : Nat) : Nat → List (Int × Int) × Int
  | 0 => ([], 0)
  | k + 1 => stepF R m N k (repF R m N k)
theorem parts_full {N : Nat} (hN : N ≤ 5) : (partsF N).length = 2 ^ N := by
  unfold partsF
  rw [if_pos ⟨by omega, by omega⟩, Int.toNat_natCast]
  unfold valS sortS finsB
  simp
theorem cand_ok {N k : Nat} (hN : N ≤ 5) (h1 : 1 ≤ N) (hk : k < N * 2 ^ N) : k / N < (partsF N).length ∧ St (candF N k).1 ∧ Co (candF N k).2 ∧ (candF N k).1 < 2 ^ N ∧ (candF N k).2 < N := by
  have h2 : k / N < (partsF N).length := by
    rw [parts_full hN]
    exact Nat.div_lt_of_lt_mul hk
  have hm := List.mem_iff_getElem?.2 ⟨k / N, nth_eq h2⟩
  have h3 := (partsF_mem (n := (N : Int)) (by omega) (by omega)).1 hm
  have h4 := (pow_wrap (n := (N : Int)) (by omega) (by omega)).2.1
  rw [Int.toNat_natCast] at h3 h4
  have h5 := Nat.mod_lt k (show 0 < N by omega)
  have e5 : St (candF N k).1 := ⟨h3.1, by show nth (partsF N) (k / N) < 32; omega⟩
  have e6 : Co (candF N k).2 := ⟨by show 0 ≤ ((k % N : Nat) : Int); omega, by show ((k % N : Nat) : Int) < 5; omega⟩
  exact ⟨h2, e5, e6, h3.2, by show ((k % N : Nat) : Int) < N; omega⟩
theorem rep_ok {R : List (List Int)} {m : Int} {N : Nat} (hN : N ≤ 5) (h1 : 1 ≤ N) : ∀ k, k ≤ N * 2 ^ N → (∀ o ∈ (repF R m N k).1, St o.1 ∧ Co o.2) ∧ (repF R m N k).1.length ≤ k ∧ 0 ≤ (repF R m N k).2 ∧ (repF R m N k).2 ≤ k
  | 0, _ => ⟨(fun o ho => by cases ho), Nat.le_refl _, Int.le_refl _, Int.le_refl _⟩
  | k + 1, hk => by
    obtain ⟨i1, i2, i3, i4⟩ := rep_ok (R := R) (m := m) hN h1 k (by omega)
    obtain ⟨_, c1, c2, _⟩ := cand_ok hN h1 (show k < N * 2 ^ N by omega)
    show (∀ o ∈ (stepF R m N k (repF R m N k)).1, St o.1 ∧ Co o.2) ∧ (stepF R m N k (repF R m N k)).1.length ≤ k + 1 ∧ 0 ≤ (stepF R m N k (repF R m N k)).2 ∧ (stepF R m N k (repF R m N k)).2 ≤ (k + 1 : Nat)
    unfold stepF
    split
    · exact ⟨i1, by omega, i3, by omega⟩
    · split
      · refine ⟨fun o ho => ?_, by rw [List.length_append]; simp; omega, by omega, by simp; omega⟩
        rcases List.mem_append.1 ho with h | h
        · exact i1 o h
        · rw [List.mem_singleton.1 h]; exact ⟨c1, c2⟩
      · exact ⟨i1, by show (repF R m N k).1.length ≤ k + 1; omega, by show 0 ≤ (repF R m N k).2 + 1; omega, by show (repF R m N k).2 + 1 ≤ ((k + 1 : Nat) : Int); omega⟩
theorem count_le {N : Nat} (hN : N ≤ 5) : N * 2 ^ N ≤ 160 := by
  have h : ∀ N < 6, N * 2 ^ N ≤ 160 := by decide
  exact h N (by omega)
end Go.Proofs.YtcenndlbhgfdfaaDoor
namespace Go.Proofs.YtcenndlbhgfdfaaDoor
open Go.RowKit
set_option linter.unusedVariables false
set_option maxRecDepth 100000

def set6 (w : World) (k : Nat) (b0 b1 b2 b3 b4 b5 : Value) : World := (((((w.setCell ⟨k, 0, none⟩ b0).setCell ⟨k, 1, none⟩ b1).setCell ⟨k, 2, none⟩ b2).setCell ⟨k, 3, none⟩ b3).setCell ⟨k, 4, none⟩ b4).setCell ⟨k, 5, none⟩ b5
theorem OwnD.set_ne {w : World} {B g : Nat} {v : Value} {D : List (Int × Int)} (h : OwnD w B v D) (j : Nat) (u : Value) (hg : v.ownBlock ≠ some g) : OwnD (w.setCell ⟨g, j, none⟩ u) B v D := ownsRow_setCell_other h (a := ⟨g, j, none⟩) hg u
theorem OwnD.set6 {w : World} {B k : Nat} {v : Value} {D : List (Int × Int)} (h : OwnD w B v D) (hk : v.ownBlock ≠ some k) (b0 b1 b2 b3 b4 b5 : Value) : OwnD (set6 w k b0 b1 b2 b3 b4 b5) B v D :=
  (((((h.set_ne 0 b0 hk).set_ne 1 b1 hk).set_ne 2 b2 hk).set_ne 3 b3 hk).set_ne 4 b4 hk).set_ne 5 b5 hk
theorem bel_set6 {w0 w : World} {B : Nat} (h : Below B w0 w) {k : Nat} (hk : B ≤ k) (b0 b1 b2 b3 b4 b5 : Value) : Below B w0 (set6 w k b0 b1 b2 b3 b4 b5) :=
  Below.setCell (p := ⟨k, 5, none⟩) (Below.setCell (p := ⟨k, 4, none⟩) (Below.setCell (p := ⟨k, 3, none⟩) (Below.setCell (p := ⟨k, 2, none⟩) (Below.setCell (p := ⟨k, 1, none⟩) (Below.setCell (p := ⟨k, 0, none⟩) h hk b0) hk b1) hk b2) hk b3) hk b4) hk b5
theorem OwnD.nilcap {w : World} {B n c : Nat} {oa : Option Addr} {D : List (Int × Int)} (h : OwnD w B (.slice oa n c) D) : oa = none → c = 0 := by
  intro e
  subst e
  rcases h.2 with ⟨hv, _⟩ | ⟨g, c', cur, hv, _⟩
  · cases hv; rfl
  · cases hv
theorem OwnD.not_new {w : World} {B : Nat} {v : Value} {D : List (Int × Int)} (h : OwnD w B v D) {g : Nat} (hg : w.heap.size ≤ g) : v.ownBlock ≠ some g := fun e => by
  have := (World.ownsRow.lt h g e).2
  omega
theorem Fresh.self (w : World) (v : Value) : Fresh w v v := .inl rfl
theorem covS_take {F : List (Int × Int)} {x r : Int} {j : Nat} (hj : j < F.length) : covS (F.take (j + 1)) x r = (covS (F.take j) x r || ((nr F j == r) && ins (nl F j) x)) := by
  unfold covS
  rw [List.take_add_one, dnth_eq hj, List.any_append]; simp
theorem covS_at {F : List (Int × Int)} {x r : Int} {j : Nat} (hj : j < F.length) (h : ((nr F j == r) && ins (nl F j) x) = true) : covS F x r = true := List.any_eq_true.2 ⟨(nl F j, nr F j), List.mem_iff_getElem?.2 ⟨j, dnth_eq hj⟩, h⟩
theorem ask_cand {N k : Nat} {R : List (List Int)} {m : Int} (ht : isTabF N R = true) (hm : modeF m = true) (hk : k < N * 2 ^ N) : askF N R m (candF N k).1 (candF N k).2 = true := by
  obtain ⟨h1, h5, _, _⟩ := isTab_of ht
  obtain ⟨_, c1, c2, c3, c4⟩ := cand_ok (by omega) (by omega) hk
  unfold askF isDepF isAttr
  rw [ht, hm]
  simp only [Bool.and_self, Bool.true_and, Bool.and_eq_true, decide_eq_true_eq, Int.toNat_natCast]
  exact ⟨⟨⟨h1, ⟨⟨⟨by omega, h5⟩, c1.1⟩, c3⟩⟩, c2.1⟩, c4⟩
theorem Blk.grown {a b : World} {g : Nat} {c : Array Value} {T : TypeId} {row : Option Nat} (h : Blk a g c T) (hg : a.grownBy b row) (hne : some g ≠ row) : Blk b g c T := (hg.block g h.lt hne).trans h
theorem lit_keep {w w' : World} {n : Nat} {c : Array Value} {T : TypeId} (h : Below n (w.alloc (.cells c T)) w') (hn : n = w.heap.size + 1) : w'.heap[w.heap.size]? = some (.cells c T (0, 0)) := (h.block w.heap.size (by omega)).trans (heap_alloc_new w _)
theorem lit_keep_drew {w w' : World} {n : Nat} {c : Array Value} {T : TypeId} (h : Below n (w.alloc (.cells c T)).drew w') (hn : n = w.heap.size + 1) : w'.heap[w.heap.size]? = some (.cells c T (0, 0)) := (h.block w.heap.size (by omega)).trans (heap_alloc_new w _)
theorem own_snocD' {w : World} {base : Nat} {v : Value} {A : List (Int × Int)} {l r : Int} (h : w.ownsRow base 28 2 v (A.length + 1) (dcells A ++ [.int .i64 l, .int .i64 r])) : OwnD w base v (A ++ [(l, r)]) := OwnD.joined (B := [(l, r)]) h
theorem snoc_shape {w : World} {base : Nat} {v : Value} {A : List (Int × Int)} {d : Int × Int} (h : OwnD w base v (A ++ [d])) : ∃ o c, v = .slice o (A.length + 1) c := by
  obtain ⟨o, c, e⟩ := h.shape
  exact ⟨o, c, by rw [e]; simp⟩
end Go.Proofs.YtcenndlbhgfdfaaDoor
namespace Go.Proofs.YtcenndlbhgfdfaaDoor
open Go.RowKit
set_option linter.unusedVariables false
set_option maxRecDepth 100000

/-- Rows, each of which is nil without capacity, if it is nil. -/
def RowsC (w : World) (oa : Option Addr) (R : List (List Int)) : Prop := RowsAt w oa R ∧ ∀ (b off : Nat), oa = some ⟨b, off, none⟩ → ∀ k, k < R.length → ∀ o n c, w.cell? ⟨b, off + k, none⟩ = some (.slice o n c) → o = none → c = 0
theorem RowsC.keep {w w' : World} {oa : Option Addr} {R : List (List Int)} (h : RowsC w oa R) (hb : Below w.heap.size w w') : RowsC w' oa R :=
  ⟨h.1.keep hb, fun b off e k hk o n c hc => by
    obtain ⟨b', off', e', hlt, _⟩ := h.1.at_ (by omega)
    rw [e] at e'
    simp only [Option.some.injEq, Addr.mk.injEq, and_true] at e'
    obtain ⟨rfl, rfl⟩ := e'
    exact h.2 b off e k hk o n c (by rw [← hb.cell (p := ⟨b, off + k, none⟩) hlt]; exact hc)⟩
theorem OwnI.nilcap {w : World} {B n c : Nat} {oa : Option Addr} {L : List Int} (h : OwnI w B (.slice oa n c) L) : oa = none → c = 0 := by
  intro e
  subst e
  rcases h.2 with ⟨hv, _⟩ | ⟨g, c', cur, hv, _⟩
  · cases hv; rfl
  · cases hv
theorem OwnRows.readC {w : World} {B : Nat} {oa : Option Addr} {n c : Nat} {xs : List Value} {R : List (List Int)} (h : OwnRows w B (.slice oa n c) xs R) (hR : R.length ≤ Room) (hr : ∀ j, j < R.length → (row R j).length ≤ Room) : RowsC w oa R := by
  refine ⟨h.read hR hr, fun b off e k hk o n' c' hc ho => ?_⟩
  obtain ⟨g, e', _, hlt, hcell⟩ := h.at_ (by omega)
  rw [e'] at e
  simp only [Option.some.injEq, Addr.mk.injEq, and_true] at e
  obtain ⟨rfl, rfl⟩ := e
  obtain ⟨o2, c2, q1, q2, _⟩ := h.rows k hk
  have := hcell k hk
  rw [Nat.zero_add] at hc
  rw [hc, q1] at this
  simp only [Option.some.injEq, Value.slice.injEq] at this
  obtain ⟨rfl, _, rfl⟩ := this
  exact q2.nilcap ho
theorem take_row {R : List (List Int)} {k : Nat} (h : k < R.length) : R.take (k + 1) = R.take k ++ [row R k] := by rw [List.take_add_one, row_eq h]; rfl
end Go.Proofs.YtcenndlbhgfdfaaDoor
namespace Go.Proofs.YtcenndlbhgfdfaaDoor
open Go.RowKit
set_option linter.unusedVariables false
set_option maxRecDepth 100000

theorem bel_set2 {w0 w : World} {B : Nat} (h : Below B w0 w) {k : Nat} (hk : B ≤ k) (b0 b1 : Value) : Below B w0 ((w.setCell ⟨k, 0, none⟩ b0).setCell ⟨k, 1, none⟩ b1) :=
  Below.setCell (p := ⟨k, 1, none⟩) (Below.setCell (p := ⟨k, 0, none⟩) h hk b0) hk b1
theorem apart_lit {v : Value} {g n c : Nat} (h : v.ownBlock ≠ some g) : Apart (.slice (some ⟨g, 0, none⟩) n c) v := Or.inr fun e => h e.symm
theorem Blk.world {w : World} {g : Nat} {c : Array Value} {T : TypeId} (h : Blk w g c T) : ∃ w', w' = w := ⟨w, rfl⟩
theorem drew_grown {w w' : World} {row : Option Nat} (h : w.drew.grownBy w' row) : w.grownBy w' row := ⟨h.os, h.tape, h.output, h.size, h.block⟩
theorem drew_fresh {w : World} {v v' : Value} (h : Fresh w.drew v v') : Fresh w v v' := h
def OldR (S : Nat) (v : Value) (xs : List Value) : Prop := ∀ y, y = v ∨ y ∈ xs → ∀ g, y.ownBlock = some g → g < S
theorem OwnRows.old {w : World} {B S : Nat} {v : Value} {xs : List Value} {R : List (List Int)} (h : OwnRows w B v xs R) (hS : w.heap.size ≤ S) : OldR S v xs := by
  intro y hy g hg
  rcases hy with rfl | hy
  · exact Nat.lt_of_lt_of_le (World.ownsRow.lt h.outer g hg).2 hS
  · obtain ⟨j, _, o, c, e, h2, _⟩ := h.one hy
    exact Nat.lt_of_lt_of_le (World.ownsRow.lt h2 g hg).2 hS
theorem OwnRows.lowS {w : World} {B S : Nat} {v : Value} {xs : List Value} {R : List (List Int)} (h : OwnRows w B v xs R) (hS : S ≤ B) : ∀ y ∈ xs, ∀ g, y.ownBlock = some g → S ≤ g := by
  intro y hy g hg
  obtain ⟨j, _, o, c, e, h2, _⟩ := h.one hy
  exact Nat.le_trans hS (World.ownsRow.lt h2 g hg).1
theorem OwnRows.many {w w' : World} {B S : Nat} {v : Value} {xs vs : List Value} {R : List (List Int)} (h : OwnRows w B v xs R) (hg : GrownMany w w' vs) (hl : ∀ y ∈ vs, ∀ g, y.ownBlock = some g → S ≤ g) (ho : OldR S v xs) : OwnRows w' B v xs R := by
  have hap : ∀ u, u = v ∨ u ∈ xs → ∀ y ∈ vs, Apart u y := by
    intro u hu y hy
    cases e : u.ownBlock with
    | none => exact .inl e
    | some g => exact .inr fun e' => by have := ho u hu g e; have := hl y hy g (by rw [← e', e]); omega
  refine ⟨h.len, owns_many h.outer hg (hap v (.inl rfl)), fun j hj => ?_, h.pair⟩
  obtain ⟨o, c, h1, h2, h3⟩ := h.rows j hj
  exact ⟨o, c, h1, h2.many hg (hap _ (.inr (List.mem_iff_getElem?.2 ⟨j, h1⟩))), h3⟩
theorem OwnRows.after {w w' : World} {B size n : Nat} {e : TypeId} {u v : Value} {ys xs : List Value} {R : List (List Int)} (h : OwnRows w' w.heap.size v xs R) (h' : w.ownsRow B e size u n ys) : ApartR v xs u :=
  ⟨(apart_old h' h.outer).symm, fun y hy => by obtain ⟨j, _, o, c, e, h2, _⟩ := h.one hy; exact (apart_old h' h2).symm⟩
theorem Blk.many {w w' : World} {k : Nat} {c : Array Value} {T : TypeId} {vs : List Value} (h : Blk w k c T) (hg : GrownMany w w' vs) (hn : ∀ y ∈ vs, y.ownBlock ≠ some k) : Blk w' k c T := (hg.block k h.lt hn).trans h
theorem OwnRows.readSeq {w : World} {B c : Nat} {oa : Option Addr} {xs : List Value} {R : List (List Int)} {k : Int} (h : OwnRows w B (.slice oa R.length c) xs (seqR k R)) (hR : R.length ≤ Room) (hr : ∀ j, j < R.length → (row R j).length ≤ Room) : RowsAt w oa (seqR k R) :=
  h.read (by rw [seqR_length]; exact hR) (fun j hj => by rw [seqR_length] at hj; rw [seqR_row hj, seqI_length]; exact hr j hj)
theorem OwnRows.baseLe {w : World} {B S : Nat} {v : Value} {xs : List Value} {R : List (List Int)} (_ : OwnRows w B v xs R) (h : S ≤ B) : S ≤ B := h
theorem sum_le {R : List (List Int)} {m : Nat} (h : ∀ j, j < R.length → (row R j).length ≤ m) : ∀ k, k ≤ R.length → sumL R k ≤ m * k
  | 0, _ => by simp [sumL]
  | k + 1, hk => by
    rw [sumL_succ (by omega), Nat.mul_succ]
    have := sum_le h k (by omega)
    have := h k (by omega)
    omega
/-- Neither the list nor a row of it lies in block k. -/
def Avoid (k : Nat) (v : Value) (xs : List Value) : Prop := ∀ y, y = v ∨ y ∈ xs → y.ownBlock ≠ some k
theorem set_apart {w : World} {B size n k j : Nat} {e : TypeId} {y u : Value} {ys : List Value} (h : w.ownsRow B e size y n ys) (hk : y.ownBlock ≠ some k) : (w.setCell ⟨k, j, none⟩ u).ownsRow B e size y n ys :=
  World.ownsRow.kept h (grown_set w k j _) (.inr hk)
theorem ownRows_setAvoid {w : World} {B k : Nat} {v : Value} {xs : List Value} {R : List (List Int)} (h : OwnRows w B v xs R) (ha : Avoid k v xs) (j : Nat) (u : Value) : OwnRows (w.setCell ⟨k, j, none⟩ u) B v xs R :=
  ⟨h.len, set_apart h.outer (ha v (.inl rfl)), fun t ht => by
    obtain ⟨o, c, h1, h2, h3⟩ := h.rows t ht
    exact ⟨o, c, h1, set_apart h2 (ha _ (.inr (List.mem_iff_getElem?.2 ⟨t, h1⟩))), h3⟩, h.pair⟩
/-- 't.Rows = append(t.Rows, r)' for a table that the call made. -/
theorem tab_snoc {w w5 w7 : World} {B k6 c c5 nC : Nat} {hd v' : Value} {T T2 : TypeId} {o o5 : Option Addr} {xs : List Value} {P : List (List Int)} {C : List Int} (hnC : C.length = nC)
    (hO : OwnRows w5 B (.slice o P.length c) xs P) (hC : OwnI w5 B (.slice o5 nC c5) C) (hap : ApartR (.slice o P.length c) xs (.slice o5 nC c5))
    (kb : Blk w5 k6 #[hd, .slice o P.length c] T) (av : Avoid k6 (.slice o P.length c) xs) (avC : (Value.slice o5 nC c5).ownBlock ≠ some k6) (hb : Below w.heap.size w w5) (hB : w.heap.size ≤ B) (hk6 : w.heap.size ≤ k6)
    (hown : w7.ownsRow B 50 1 v' (xs.length + 1) (xs ++ [.slice o5 nC c5])) (hgrow : (w5.alloc (.cells #[.slice o5 nC c5] T2)).grownBy w7 (Value.slice o P.length c).ownBlock) (hfr : Fresh (w5.alloc (.cells #[.slice o5 nC c5] T2)) (.slice o P.length c) v') :
    (∃ o' c', v' = .slice o' (P.length + 1) c') ∧ w7.cell? ⟨k6, 1, none⟩ = some (.slice o P.length c) ∧ w7.frozen? ⟨k6, 1, none⟩ = false ∧ Blk (w7.setCell ⟨k6, 1, none⟩ v') k6 #[hd, v'] T ∧
    OwnRows (w7.setCell ⟨k6, 1, none⟩ v') B v' (xs ++ [.slice o5 nC c5]) (P ++ [C]) ∧ Avoid k6 v' (xs ++ [.slice o5 nC c5]) ∧ Below w.heap.size w (w7.setCell ⟨k6, 1, none⟩ v') ∧
    (∀ (B' : Nat) (e : TypeId) (size : Nat) (u : Value) (n : Nat) (ys : List Value), w5.ownsRow B' e size u n ys → Apart u (.slice o P.length c) → u.ownBlock ≠ some k6 → (w7.setCell ⟨k6, 1, none⟩ v').ownsRow B' e size u n ys ∧ Apart u v') ∧
    (∀ (g : Nat) (cs : Array Value) (T' : TypeId), Blk w5 g cs T' → g ≠ k6 → (Value.slice o P.length c).ownBlock ≠ some g → Blk (w7.setCell ⟨k6, 1, none⟩ v') g cs T') := by
  subst hnC
  have hO2 := OwnRows.snoc hO hC hap hown hgrow hfr
  have hsh : ∃ o' c', v' = .slice o' (P.length + 1) c' := by
    obtain ⟨o', c', e⟩ := hO2.shape
    exact ⟨o', c', by rw [e]; simp⟩
  have hv : v'.ownBlock ≠ some k6 := by
    rcases hfr with h | h
    · rw [h]; exact av _ (.inl rfl)
    · intro e
      have h1 := h k6 e
      have h2 := kb.lt
      simp at h1; omega
  have av2 : Avoid k6 v' (xs ++ [.slice o5 C.length c5]) := by
    intro y hy
    rcases hy with rfl | hy
    · exact hv
    · rcases List.mem_append.1 hy with hy | hy
      · exact av y (.inr hy)
      · rw [List.mem_singleton] at hy; subst hy; exact avC
  have k7 : Blk w7 k6 #[hd, .slice o P.length c] T := (kb.alloc _).grown hgrow (fun e => av _ (.inl rfl) e.symm)
  have hb7 : Below w.heap.size w w7 := (hb.alloc hb.size _).grown hgrow (by have := hb.size; simp; omega) (fun g hg => Nat.le_trans hB (World.ownsRow.lt hO.outer g hg).1)
  refine ⟨hsh, k7.cell 1 _ rfl, k7.free 1, k7.set 1 v', ownRows_setAvoid hO2 av2 1 v', av2, Below.setCell (p := (⟨k6, 1, none⟩ : Addr)) hb7 hk6 v', ?_, ?_⟩
  · intro B' e size u n ys h ha hk
    have h1 := World.ownsRow.alloc h (.cells #[.slice o5 C.length c5] T2)
    exact ⟨set_apart (World.ownsRow.kept h1 hgrow ha) hk, Apart.next h1 ha hfr⟩
  · intro g cs T' h hg hne
    exact ((h.alloc _).grown hgrow (fun e => hne e.symm)).far ⟨k6, 1, none⟩ v' hg

theorem oldR_le {S S' : Nat} {v : Value} {xs : List Value} (h : OldR S v xs) (hS : S ≤ S') : OldR S' v xs := fun y hy g e => Nat.lt_of_lt_of_le (h y hy g e) hS
theorem apartR_none (v : Value) (xs : List Value) : ApartR v xs (.slice none 0 0) := ⟨Apart.symm (.inl rfl), fun y _ => Apart.symm (.inl rfl)⟩
theorem ownD_none (w : World) (base : Nat) : OwnD w base (.slice none 0 0) [] := ⟨rfl, Or.inl ⟨rfl, rfl⟩⟩
theorem Blk.keepTo {w w' : World} {g B : Nat} {c : Array Value} {T : TypeId} (h : Blk w g c T) (hg : g < B) (hb : Below B w w') : Blk w' g c T := (hb.block g hg).trans h
end Go.Proofs.YtcenndlbhgfdfaaDoor
namespace Go.Proofs.YtcenndlbhgfdfaaDoor
open Go.RowKit
set_option linter.unusedVariables false
set_option maxRecDepth 100000

theorem OwnI.cur {w w' : World} {B g : Nat} {v : Value} {L : List Int} (h : OwnI w B v L) (hg : w.grownBy w' (some g)) (hB : g < B) : OwnI w' B v L := owns_cur h hg hB
theorem OwnRows.cur {w w' : World} {B g : Nat} {v : Value} {xs : List Value} {R : List (List Int)} (h : OwnRows w B v xs R) (hg : w.grownBy w' (some g)) (hB : g < B) : OwnRows w' B v xs R :=
  ⟨h.len, owns_cur h.outer hg hB, fun j hj => by
    obtain ⟨o, c, h1, h2, h3⟩ := h.rows j hj
    exact ⟨o, c, h1, h2.cur hg hB, h3⟩, h.pair⟩
set_option maxHeartbeats 1600000 in
theorem c_l3RandomRow (g N : Nat) (hN : N ≤ 5) (wide : Int) (hw : wide ≤ 256) (w : World) (hc : Cur w g) :
    Calls Tryd.prog 76 #[.pointer (some ⟨g, 0, none⟩), .int .i64 N, .int .i64 wide] w fun e w' => ∃ o c L, e = .returned (.slice o (L.length : Nat) c) ∧ OwnI w' w.heap.size (.slice o L.length c) L ∧ L.length = N ∧ Cur w' g ∧ w.grownBy w' (some g) := by
  obtain ⟨i0, hi0, hz0, hz1, hz2⟩ := info_parts info_int
  have hlt := hc.lt
  have hI := OwnI.empty w w.heap.size (Nat.le_refl _)
  have hG := grown_of_below ((Below.refl w.heap.size w).alloc (Nat.le_refl _) (.cells #[] 3)) (some g)
  replace hc := cur_alloc hc (.cells #[] 3)
  go_enter Tryd.func76, Tryd.ntmps76
  go_wp2_with fail
  go_loopw [7, 8] (fun v i wr => ∃ (k : Nat) (L : List Int), i = .int .i64 k ∧ L.length = k ∧ k ≤ N ∧ OwnI wr w.heap.size v L ∧ Cur wr g ∧ w.grownBy wr (some g)) (fun _ i _ => N - (intOf i).toNat)
  case atStart => exact ⟨0, [], rfl, rfl, Nat.zero_le _, hI, hc, hG⟩
  case round =>
    clear hI hc hG
    obtain ⟨k, L, rfl, hLk, hk, hI, hc, hG⟩ := hrel
    have hi := hi0
    have HLK : Hid (L.length = k) := hLk
    have HL5 : L.length ≤ 5 := by omega
    clear hLk
    by_cases hlt0 : k < N
    · go_wp2_with fail
      refine (c_l1Below g wide hw _ hc).mono ?_
      rintro e w2 ⟨x, rfl, _, _, _, hc2, hg⟩
      replace hI := hI.cur hg hlt
      replace hG := grown_trans hG hg
      clear hc hg
      go_wp2_with fail
      refine (c_l1Once g 12 (by omega) _ hc2).mono ?_
      rintro e w3 ⟨t, rfl, hc3, hg⟩
      replace hI := hI.cur hg hlt
      replace hG := grown_trans hG hg
      clear hc2 hg
      cases t
      · go_wp2_with (first | (at_builtin; refine wpList_append_own _ rfl _ _ 50 rfl w.heap.size 3 i0 (.int .i64 0) 1 8 Tryd.underlying50 hi hz0 hz1 hz2 rfl (by decide) _ _ _ rfl (World.ownsRow.alloc hI _) _ 1 1 [.int .i64 (x)] rfl rfl (by intro j u hj; match j, hj with | 0, hj => simp at hj; subst hj; simp [Addr.add]) (by intro u hu; simp at hu; subst hu; rfl) (by unfold maxLen; omega) (by omega) (by have := hG.size; simp; omega) ?_; intro v' w9 hown hgrow _; have hc9 := Cur.grown (cur_alloc hc3 _) hgrow (fun k e => by have := (World.ownsRow.lt hI k e).1; omega); have hG9 := grown_more (grown_trans hG (grown_of_below ((Below.refl _ _).alloc (Nat.le_refl _) _) _)) hgrow (fun k e => (World.ownsRow.lt hI k e).1); replace hI := OwnI.snoc hown; clear hown hgrow hG hc3) | fail)
        go_roundw
        case rel => exact ⟨k + 1, L ++ [x], by go_num, by simp; exact HLK.out, by omega, hI, hc9, hG9⟩
        case measure => simp [intOf]; omega
      · go_wp2_with (first | (at_builtin; refine wpList_append_own _ rfl _ _ 50 rfl w.heap.size 3 i0 (.int .i64 0) 1 8 Tryd.underlying50 hi hz0 hz1 hz2 rfl (by decide) _ _ _ rfl (World.ownsRow.alloc hI _) _ 1 1 [.int .i64 (-1)] rfl rfl (by intro j u hj; match j, hj with | 0, hj => simp at hj; subst hj; simp [Addr.add]) (by intro u hu; simp at hu; subst hu; rfl) (by unfold maxLen; omega) (by omega) (by have := hG.size; simp; omega) ?_; intro v' w9 hown hgrow _; have hc9 := Cur.grown (cur_alloc hc3 _) hgrow (fun k e => by have := (World.ownsRow.lt hI k e).1; omega); have hG9 := grown_more (grown_trans hG (grown_of_below ((Below.refl _ _).alloc (Nat.le_refl _) _) _)) hgrow (fun k e => (World.ownsRow.lt hI k e).1); replace hI := OwnI.snoc hown; clear hown hgrow hG hc3) | fail)
        go_roundw
        case rel => exact ⟨k + 1, L ++ [-1], by go_num, by simp; exact HLK.out, by omega, hI, hc9, hG9⟩
        case measure => simp [intOf]; omega
    · have HK : Hid (L.length = N) := by show L.length = N; have := HLK.out; omega
      obtain ⟨o, c, rfl⟩ := hI.shape
      go_wp2
      go_ret
      exact ⟨o, c, L, rfl, hI, HK.out, hc, hG⟩
end Go.Proofs.YtcenndlbhgfdfaaDoor
namespace Go.Proofs.YtcenndlbhgfdfaaDoor
open Go.RowKit
set_option linter.unusedVariables false
set_option maxRecDepth 100000

theorem heap_new_at {w : World} {o : Obj} {k : Nat} (h : k = w.heap.size) : (w.alloc o).heap[k]? = some o := by subst h; exact heap_alloc_new _ _
/-- 't.Rows = append(t.Rows, r)', while a cursor is being read. -/
theorem tab_snocG {w w5 w7 : World} {B k6 c c5 nC g : Nat} {hd v' : Value} {T T2 : TypeId} {o o5 : Option Addr} {xs : List Value} {P : List (List Int)} {C : List Int} (hnC : C.length = nC)
    (hO : OwnRows w5 B (.slice o P.length c) xs P) (hC : OwnI w5 B (.slice o5 nC c5) C) (hap : ApartR (.slice o P.length c) xs (.slice o5 nC c5))
    (kb : Blk w5 k6 #[hd, .slice o P.length c] T) (av : Avoid k6 (.slice o P.length c) xs) (avC : (Value.slice o5 nC c5).ownBlock ≠ some k6) (hc : Cur w5 g) (hG : w.grownBy w5 (some g)) (hB : w.heap.size ≤ B) (hk6 : w.heap.size ≤ k6) (hgk : g < k6)
    (hown : w7.ownsRow B 50 1 v' (xs.length + 1) (xs ++ [.slice o5 nC c5])) (hgrow : (w5.alloc (.cells #[.slice o5 nC c5] T2)).grownBy w7 (Value.slice o P.length c).ownBlock) (hfr : Fresh (w5.alloc (.cells #[.slice o5 nC c5] T2)) (.slice o P.length c) v') (hgB : g < B := by omega) :
    (∃ o' c', v' = .slice o' (P.length + 1) c') ∧ w7.cell? ⟨k6, 1, none⟩ = some (.slice o P.length c) ∧ w7.frozen? ⟨k6, 1, none⟩ = false ∧ Blk (w7.setCell ⟨k6, 1, none⟩ v') k6 #[hd, v'] T ∧
    OwnRows (w7.setCell ⟨k6, 1, none⟩ v') B v' (xs ++ [.slice o5 nC c5]) (P ++ [C]) ∧ Avoid k6 v' (xs ++ [.slice o5 nC c5]) ∧ Cur (w7.setCell ⟨k6, 1, none⟩ v') g ∧ w.grownBy (w7.setCell ⟨k6, 1, none⟩ v') (some g) ∧
    (∀ (B' : Nat) (e : TypeId) (size : Nat) (u : Value) (n : Nat) (ys : List Value), w5.ownsRow B' e size u n ys → Apart u (.slice o P.length c) → u.ownBlock ≠ some k6 → (w7.setCell ⟨k6, 1, none⟩ v').ownsRow B' e size u n ys ∧ Apart u v') ∧
    (∀ (g' : Nat) (cs : Array Value) (T' : TypeId), Blk w5 g' cs T' → g' ≠ k6 → (Value.slice o P.length c).ownBlock ≠ some g' → Blk (w7.setCell ⟨k6, 1, none⟩ v') g' cs T') := by
  have hal : w5.heap.size ≤ (w5.alloc (.cells #[.slice o5 nC c5] T2)).heap.size := by simp
  obtain ⟨h1, h2, h3, h4, h5, h6, _, h8, h9⟩ := tab_snoc (w := { w5 with heap := #[] }) hnC hO hC hap kb av avC ⟨rfl, rfl, rfl, Nat.zero_le _, fun i hi => absurd hi (by simp)⟩ (Nat.zero_le _) (Nat.zero_le _) hown hgrow hfr
  refine ⟨h1, h2, h3, h4, h5, h6, (Cur.grown (cur_alloc hc _) hgrow (fun k e => by have := (World.ownsRow.lt hO.outer k e).1; omega)).set hgk, grown_new (grown_more (grown_trans hG (grown_of_below ((Below.refl _ _).alloc (Nat.le_refl _) _) _)) hgrow (fun k e => by have := (World.ownsRow.lt hO.outer k e).1; omega)) hk6, h8, h9⟩
set_option maxHeartbeats 3200000 in
theorem c_l3Table (g : Nat) (w : World) (hc : Cur w g) :
    Calls Tryd.prog 64 #[.pointer (some ⟨g, 0, none⟩)] w fun e w' => ∃ (N : Nat) (o : Option Addr) (c : Nat) (xs : List Value) (R : List (List Int)), e = .returned (.agg #[.int .i64 N, .slice o R.length c]) ∧ OwnRows w' w.heap.size (.slice o R.length c) xs R ∧ (2 ≤ N ∧ N ≤ 4 ∧ R.length ≤ 12 ∧ ∀ j, j < R.length → (row R j).length ≤ 5) ∧ Cur w' g ∧ w.grownBy w' (some g) := by
  obtain ⟨i0, hi, hz0, hz1, hz2⟩ := info_parts info_int
  obtain ⟨j0, hj, hy0, hy1, hy2⟩ := info_parts info_ints
  have hlt := hc.lt
  have kZ := Blk.new w #[.int .i64 0, .slice none 0 0] 26
  have hG := grown_of_below ((Below.refl w.heap.size w).alloc (Nat.le_refl _) (.cells #[.int .i64 0, .slice none 0 0] 26)) (some g)
  replace hc := cur_alloc hc (.cells #[.int .i64 0, .slice none 0 0] 26)
  go_enter Tryd.func64, Tryd.ntmps64
  go_wp2_with fail
  refine (c_l1Below g 3 (by omega) _ hc).mono ?_
  rintro e w1 ⟨q, rfl, hq0, hq1, _, hc1, hg⟩
  replace kZ := kZ.cur hg (show w.heap.size ≠ g by omega)
  replace hG := grown_trans hG hg
  have hq2 := hq1 (by omega)
  clear hc hg hq1
  have hz := kZ.lt
  have kT := Blk.new w1 #[.int .i64 ((2 : Int) + q), .slice none 0 0] 26
  have hba := (Below.refl w1.heap.size w1).alloc (Nat.le_refl _) (.cells #[.int .i64 ((2 : Int) + q), .slice none 0 0] 26)
  replace kZ := kZ.keep hba
  replace hc1 := hc1.keep hba
  replace hG := grown_trans hG (grown_of_below hba _)
  clear hba
  go_upto_region 2 with fail
  generalize w1.alloc (.cells #[.int .i64 ((2 : Int) + q), .slice none 0 0] 26) = w2 at *
  obtain ⟨k6, hk6⟩ : ∃ k, w1.heap.size = k := ⟨_, rfl⟩
  rw [hk6] at kT hz
  simp only [hk6]
  clear hk6
  obtain ⟨N, hN⟩ : ∃ N : Nat, (2 : Int) + q = N := ⟨(2 + q).toNat, by omega⟩
  have hN2 : 2 ≤ N ∧ N ≤ 4 := by omega
  simp only [hN] at kT ⊢
  clear hN hq0 hq2
  go_wp2_with fail
  refine (c_l1Below g 3 (by omega) _ hc1).mono ?_
  rintro e w3 ⟨q3, rfl, hq0, hq1, _, hc3, hg⟩
  replace kZ := kZ.cur hg (show w.heap.size ≠ g by omega)
  replace kT := kT.cur hg (show k6 ≠ g by omega)
  replace hG := grown_trans hG hg
  have hq2 := hq1 (by omega)
  clear hc1 hg hq1
  go_wp2_with fail
  obtain ⟨wd, hwd⟩ : ∃ z, (2 : Int) + q3 = z := ⟨_, rfl⟩
  have hw4 : wd ≤ 256 := by omega
  simp only [hwd]
  clear hwd hq0 hq2
  refine (c_l1Below g 7 (by omega) _ hc3).mono ?_
  rintro e w4 ⟨q4, rfl, hq0, hq1, _, hc4, hg⟩
  replace kZ := kZ.cur hg (show w.heap.size ≠ g by omega)
  replace kT := kT.cur hg (show k6 ≠ g by omega)
  replace hG := grown_trans hG hg
  obtain ⟨k0, rfl⟩ := Int.eq_ofNat_of_zero_le hq0
  have hk0 : k0 ≤ 6 := by have := hq1 (by omega); omega
  clear hc3 hg hq0 hq1
  have hO := OwnRows.none w4 (w.heap.size + 1)
  go_wp2_with fail
  go_loopw [5] (fun i wr => ∃ (k : Nat) (R : List (List Int)) (o : Option Addr) (c : Nat) (xs : List Value), i = .int .i64 k ∧ R.length + 2 * k ≤ 12 ∧ (∀ j, j < R.length → (row R j).length ≤ 5) ∧ Blk wr k6 #[.int .i64 N, .slice o R.length c] 26 ∧ OwnRows wr (w.heap.size + 1) (.slice o R.length c) xs R ∧ Avoid k6 (.slice o R.length c) xs ∧ Cur wr g ∧ w.grownBy wr (some g) ∧ Blk wr w.heap.size #[.int .i64 0, .slice none 0 0] 26) (fun i _ => (intOf i).toNat)
  case atStart => exact ⟨k0, [], none, 0, [], rfl, by simp; omega, fun j hj => absurd hj (by simp), kT, hO, (fun y hy e => by rcases hy with rfl | hy; (simp [Value.ownBlock] at e); cases hy), hc4, hG, kZ⟩
  case round =>
    clear kT hO hc4 hG kZ
    obtain ⟨k, R, o, c, xs, rfl, hk, hlen, kT, hO, av, hc, hG, kZ⟩ := hrel
    have HLn : Hid (∀ j, j < R.length → (row R j).length ≤ 5) := hlen
    clear hlen
    have hRl : R.length ≤ 12 := by omega
    have hxl := hO.len
    by_cases hlt0 : 0 < k
    · have n0 := kT.cell 0 (.int .i64 N) rfl
      have hkt := kT.lt
      go_wp2_with fail
      refine (c_l3RandomRow g N (by omega) wd hw4 _ hc).mono ?_
      rintro e w5 ⟨o5, c5, C, rfl, hI, hCN, hc5, hg⟩
      have apI := OwnRows.fresh hO hI
      have avI : (Value.slice o5 C.length c5).ownBlock ≠ some k6 := fun e9 => by have := (World.ownsRow.lt hI _ e9).1; omega
      have HCN : Hid (C.length = N) := hCN
      have hC5 : C.length ≤ 5 := by omega
      have hC0 : 0 < C.length := by omega
      clear hCN
      replace hI := hI.based (show w.heap.size + 1 ≤ _ by omega)
      replace kT := kT.cur hg (show k6 ≠ g by omega)
      replace kZ := kZ.cur hg (show w.heap.size ≠ g by omega)
      replace hO := hO.cur hg (show g < w.heap.size + 1 by omega)
      replace hG := grown_trans hG hg
      clear hc hg n0
      have n1 := kT.cell 1 (.slice o R.length c) rfl
      go_wp2_with (first | (at_builtin; refine wpList_append_fresh rfl _ _ 24 rfl (w.heap.size + 1) 50 j0 (.slice none 0 0) 1 24 Tryd.underlying24 hj hy0 hy1 hy2 rfl (by decide) _ _ _ rfl (World.ownsRow.alloc hO.outer _) _ 1 1 [.slice o5 C.length c5] rfl rfl (World.news_of_block (cs := #[.slice o5 C.length c5]) (t := 50) (fr := (0, 0)) (heap_new_at (by simp))) (by intro u hu; simp at hu; subst hu; rfl) (by unfold maxLen; omega) (by omega) (by have := kT.lt; simp at this ⊢; omega) ?_; intro v7 w7 hown hgrow hfr; obtain ⟨⟨o7, c7, rfl⟩, s7, t7, kT7, hO7, av7, hc7, hG7, hoth, hblk⟩ := tab_snocG rfl hO hI apI kT av avI hc5 hG (Nat.le_succ _) (show w.heap.size ≤ k6 by omega) (show g < k6 by omega) hown hgrow hfr; have kZ7 := hblk _ _ _ kZ (show w.heap.size ≠ k6 by omega) (fun e => by have := (World.ownsRow.lt hO.outer _ e).1; omega); have hI7 := (hoth _ _ _ _ _ _ hI apI.1.symm avI).1; clear hown hgrow hfr hblk hoth) | fail)
      have hl7 : R.length + 1 = (R ++ [C]).length := by simp
      have HL7 : Hid (∀ j, j < (R ++ [C]).length → (row (R ++ [C]) j).length ≤ 5) := fun j hj => by
        by_cases h : j < R.length
        · rw [row_append_lt h]; exact HLn.out j h
        · have : j = R.length := by simp at hj; omega
          rw [this, row_append_end]; exact hC5
      refine (c_l1Once g 3 (by omega) _ hc7).mono ?_
      rintro e w8 ⟨t, rfl, hc8, hg⟩
      replace kT7 := kT7.cur hg (show k6 ≠ g by omega)
      replace kZ7 := kZ7.cur hg (show w.heap.size ≠ g by omega)
      replace hO7 := hO7.cur hg (show g < w.heap.size + 1 by omega)
      replace hI7 := owns_cur hI7 hg (show g < w.heap.size + 1 by omega)
      replace hG7 := grown_trans hG7 hg
      clear hc7 hg n1 s7 t7 kT hO hI kZ hG hc5 av apI avI
      rw [hl7] at kT7 hO7 av7
      have hP : (R ++ [C]).length ≤ 13 := by simp; omega
      have hPk : (R ++ [C]).length + 2 * k ≤ 13 := by simp; omega
      clear hl7
      generalize R ++ [C] = P at *
      generalize xs ++ [Value.slice o5 C.length c5] = ys at *
      cases t
      · go_wp2_with fail
        go_roundw
        case rel => exact ⟨k - 1, P, o7, c7, ys, by go_num, by omega, HL7.out, kT7, hO7, av7, hc8, hG7, kZ7⟩
        case measure => simp [intOf]; omega
      · have hk8 := kT7.lt
        have hba := (Below.refl w8.heap.size w8).alloc (Nat.le_refl _) (.cells #[] 3)
        have hE := OwnI.empty w8 w8.heap.size (Nat.le_refl _)
        obtain ⟨gr, rfl, _⟩ := OwnI.news (show OwnI w8 (w.heap.size + 1) (.slice o5 C.length c5) C from hI7) hC0
        have HB : Hid (∀ j u, (C.map encI)[j]? = some u → (w8.alloc (.cells #[] 3)).cell? ((⟨gr, 0, none⟩ : Addr).add j) = some u) := by
          obtain ⟨gr', e', h'⟩ := OwnI.news (OwnI.keep (show OwnI w8 (w.heap.size + 1) (.slice (some ⟨gr, 0, none⟩) C.length c5) C from hI7) hba) hC0
          cases e'; exact h'
        have old7 := hO7.old (Nat.le_refl _)
        go_wp2_with (first | (at_builtin; refine wpList_append_own _ rfl _ _ 50 rfl w8.heap.size 3 i0 (.int .i64 0) 1 8 Tryd.underlying50 hi hz0 hz1 hz2 rfl (by decide) (.slice (some ⟨w8.heap.size, 0, none⟩) 0 0) 0 [] rfl hE ⟨gr, 0, none⟩ C.length _ (C.map encI) rfl (by simp) HB.out (ones C) (by unfold maxLen; simp; omega) (by simp; omega) (by simp) ?_; intro v9 w9 hown hgrow _; have hX : OwnI w9 w8.heap.size v9 C := (by unfold OwnI; simpa using hown); have hb9 := hba.grown hgrow (by simp) (fun g hg => (World.ownsRow.lt hE g hg).1); clear hown hgrow; obtain ⟨o9, c9, rfl⟩ := hX.shape; have apX := OwnRows.fresh hO7 hX; replace kT7 := kT7.keep hb9; replace kZ7 := kZ7.keep hb9; replace hO7 := hO7.keep hb9; replace hc8 := hc8.keep hb9; replace hG7 := grown_trans hG7 (grown_of_below hb9 _); have n0 := kT7.cell 0 (.int .i64 N) rfl; clear hb9 hba hE) | fail)
        refine (c_l1Below g N (by omega) _ hc8).mono ?_
        rintro e w10 ⟨qj, rfl, hj0, hj1, _, hc10, hg⟩
        obtain ⟨jn, rfl⟩ := Int.eq_ofNat_of_zero_le hj0
        have hjC : jn < C.length := by have := hj1 (by omega); have := HCN.out; omega
        replace kT7 := kT7.cur hg (show k6 ≠ g by omega)
        replace kZ7 := kZ7.cur hg (show w.heap.size ≠ g by omega)
        replace hO7 := hO7.cur hg (show g < w.heap.size + 1 by omega)
        replace hX := hX.cur hg (show g < w8.heap.size by omega)
        replace hG7 := grown_trans hG7 hg
        clear hc8 hg n0 hj0 hj1
        go_wp2_with fail
        refine (c_l1Below g wd hw4 _ hc10).mono ?_
        rintro e w11 ⟨xv, rfl, _, _, _, hc11, hg⟩
        replace kT7 := kT7.cur hg (show k6 ≠ g by omega)
        replace kZ7 := kZ7.cur hg (show w.heap.size ≠ g by omega)
        replace hO7 := hO7.cur hg (show g < w.heap.size + 1 by omega)
        replace hX := hX.cur hg (show g < w8.heap.size by omega)
        replace hG7 := grown_trans hG7 hg
        clear hc10 hg
        obtain ⟨gx, rfl, _⟩ := hX.news hC0
        have hgx := (World.ownsRow.lt hX gx rfl).1
        have avx : Avoid gx (.slice o7 P.length c7) ys := fun y hy e => by have := old7 y hy _ e; omega
        obtain ⟨x1, x2⟩ := hX.cell rfl jn hjC
        replace hX := hX.store rfl jn xv
        replace kT7 := kT7.far ⟨gx, jn, none⟩ (.int .i64 xv) (show k6 ≠ gx by omega)
        replace kZ7 := kZ7.far ⟨gx, jn, none⟩ (.int .i64 xv) (show w.heap.size ≠ gx by omega)
        replace hO7 := ownRows_setAvoid hO7 avx jn (.int .i64 xv)
        replace hc11 := hc11.set (j := jn) (v := .int .i64 xv) (show g < gx by omega)
        replace hG7 := grown_new (j := jn) (v := .int .i64 xv) hG7 (show w.heap.size ≤ gx by omega)
        have hjj : (0 : Int) ≤ jn ∧ (jn : Int) < C.length := by omega
        have n1 := kT7.cell 1 (.slice o7 P.length c7) rfl
        have hyl := hO7.len
        replace hX := hX.based (show w.heap.size + 1 ≤ w8.heap.size by omega)
        have avX : (Value.slice (some ⟨gx, 0, none⟩) C.length c9).ownBlock ≠ some k6 := fun e9 => by simp [Value.ownBlock] at e9; omega
        go_wp2_with (first | (at_builtin; refine wpList_append_fresh rfl _ _ 24 rfl (w.heap.size + 1) 50 j0 (.slice none 0 0) 1 24 Tryd.underlying24 hj hy0 hy1 hy2 rfl (by decide) _ _ _ rfl (World.ownsRow.alloc hO7.outer _) _ 1 1 [.slice (some ⟨gx, 0, none⟩) C.length c9] rfl rfl (World.news_of_block (cs := #[.slice (some ⟨gx, 0, none⟩) C.length c9]) (t := 50) (fr := (0, 0)) (heap_new_at (by simp))) (by intro u hu; simp at hu; subst hu; rfl) (by unfold maxLen; omega) (by omega) (by have := kT7.lt; simp at this ⊢; omega) ?_; intro v12 w12 hown hgrow hfr; obtain ⟨⟨o8, c8, rfl⟩, s8, t8, kT8, hO8, av8, hc9, hG8, hoth, hblk⟩ := tab_snocG (show (C.set jn xv).length = C.length by simp) hO7 hX apX kT7 av7 avX hc11 hG7 (Nat.le_succ _) (show w.heap.size ≤ k6 by omega) (show g < k6 by omega) hown hgrow hfr; have kZ8 := hblk _ _ _ kZ7 (show w.heap.size ≠ k6 by omega) (fun e => by have := (World.ownsRow.lt hO7.outer _ e).1; omega); clear hown hgrow hfr hblk hoth) | fail)
        have hl8 : P.length + 1 = (P ++ [C.set jn xv]).length := by simp
        have HL8 : Hid (∀ j, j < (P ++ [C.set jn xv]).length → (row (P ++ [C.set jn xv]) j).length ≤ 5) := fun j hj => by
          by_cases h : j < P.length
          · rw [row_append_lt h]; exact HL7.out j h
          · have : j = P.length := by simp at hj; omega
            rw [this, row_append_end]; simpa using hC5
        rw [hl8] at kT8 hO8 av8
        have hPk8 : (P ++ [C.set jn xv]).length + 2 * (k - 1) ≤ 12 := by simp; omega
        clear hl8
        go_roundw
        case rel => exact ⟨k - 1, P ++ [C.set jn xv], o8, c8, _, by go_num, hPk8, HL8.out, by rw [show (P ++ [C.set jn xv]).length = P.length + 1 by simp] at *; exact kT8, by rw [show (P ++ [C.set jn xv]).length = P.length + 1 by simp] at *; exact hO8, by rw [show (P ++ [C.set jn xv]).length = P.length + 1 by simp] at *; exact av8, hc9, hG8, kZ8⟩
        case measure => simp [intOf]; omega
    · have HK : Hid (k = 0) := by show k = 0; omega
      have r0 := kT.cell 0 (.int .i64 N) rfl
      have r1 := kT.cell 1 (.slice o R.length c) rfl
      have z0 := kZ.cell 0 (.int .i64 0) rfl
      have z1 := kZ.cell 1 (.slice none 0 0) rfl
      have f0 := kZ.free 0
      have f1 := kZ.free 1
      have k2 : Blk _ w.heap.size #[.int .i64 N, .slice o R.length c] 26 := (kZ.set 0 (.int .i64 N)).set 1 (.slice o R.length c)
      have q0 := k2.cell 0 (.int .i64 N) rfl
      have q1 := k2.cell 1 (.slice o R.length c) rfl
      go_wp2
      refine bodyPost_ret (v := .agg #[.int .i64 N, .slice o R.length c]) (by simp only [results, Tryd.results64]; simp [go_sem, q0, q1]) rfl ?_
      exact ⟨N, o, c, xs, R, rfl, ((hO.far_set 0 (.int .i64 N) (Nat.lt_succ_self _)).far_set 1 (.slice o R.length c) (Nat.lt_succ_self _)).based (Nat.le_succ _), ⟨hN2.1, hN2.2, hRl, HLn.out⟩, (hc.set (j := 0) (v := .int .i64 N) hlt).set (j := 1) (v := .slice o R.length c) hlt, grown_new (j := 1) (v := .slice o R.length c) (grown_new (j := 0) (v := .int .i64 N) hG (Nat.le_refl _)) (Nat.le_refl _)⟩
end Go.Proofs.YtcenndlbhgfdfaaDoor
namespace Go.Proofs.YtcenndlbhgfdfaaDoor
open Go.RowKit
set_option linter.unusedVariables false
set_option maxRecDepth 100000

theorem snoc_all {p : Int → Prop} {L : List Int} {x : Int} (h : ∀ y ∈ L, p y) (hx : p x) : ∀ y ∈ L ++ [x], p y := fun y hy => by
  rcases List.mem_append.1 hy with h1 | h1
  · exact h y h1
  · rw [List.mem_singleton.1 h1]; exact hx
theorem set_all {p : Int → Prop} {L : List Int} {j : Nat} {x : Int} (h : ∀ y ∈ L, p y) (hx : p x) : ∀ y ∈ L.set j x, p y := fun y hy => by
  rcases List.mem_or_eq_of_mem_set hy with h1 | h1
  · exact h y h1
  · rw [h1]; exact hx
theorem rowOk_of {L : List Int} {N : Nat} (hl : L.length = N) (h : ∀ y ∈ L, -1 ≤ y ∧ y ≤ 40) : rowOk N L = true := by
  unfold rowOk
  rw [Bool.and_eq_true, List.all_eq_true]
  refine ⟨fun y hy => ?_, by rw [beq_iff_eq]; omega⟩
  unfold inB
  have := h y hy
  simp only [Bool.and_eq_true, decide_eq_true_eq]
  omega
theorem isTab_mk {R : List (List Int)} {N : Nat} (h : ∀ j, j < R.length → rowOk N (row R j) = true) (hN : 2 ≤ N ∧ N ≤ 4) (hR : R.length ≤ 40) : isTabF N R = true := by
  unfold isTabF
  rw [Bool.and_eq_true, List.all_eq_true]
  refine ⟨fun L hL => ?_, ?_⟩
  · obtain ⟨j, hj⟩ := List.mem_iff_getElem?.1 hL
    have hl : j < R.length := (List.getElem?_eq_some_iff.1 hj).1
    rw [row_eq hl] at hj
    rw [← Option.some.inj hj]; exact h j hl
  · simp only [Bool.and_eq_true, decide_eq_true_eq]; omega
set_option maxHeartbeats 1600000 in
theorem c_l3RandomRowS (g N : Nat) (hN : N ≤ 5) (wide : Int) (hw : wide ≤ 256) (hw40 : 0 < wide ∧ wide ≤ 41) (w : World) (hc : Cur w g) :
    Calls Tryd.prog 76 #[.pointer (some ⟨g, 0, none⟩), .int .i64 N, .int .i64 wide] w fun e w' => ∃ o c L, e = .returned (.slice o (L.length : Nat) c) ∧ OwnI w' w.heap.size (.slice o L.length c) L ∧ (L.length = N ∧ (∀ y ∈ L, -1 ≤ y ∧ y ≤ 40)) ∧ Cur w' g ∧ w.grownBy w' (some g) := by
  obtain ⟨i0, hi0, hz0, hz1, hz2⟩ := info_parts info_int
  have hlt := hc.lt
  have hI := OwnI.empty w w.heap.size (Nat.le_refl _)
  have hG := grown_of_below ((Below.refl w.heap.size w).alloc (Nat.le_refl _) (.cells #[] 3)) (some g)
  replace hc := cur_alloc hc (.cells #[] 3)
  go_enter Tryd.func76, Tryd.ntmps76
  go_wp2_with fail
  go_loopw [7, 8] (fun v i wr => ∃ (k : Nat) (L : List Int), i = .int .i64 k ∧ L.length = k ∧ (∀ y ∈ L, -1 ≤ y ∧ y ≤ 40) ∧ k ≤ N ∧ OwnI wr w.heap.size v L ∧ Cur wr g ∧ w.grownBy wr (some g)) (fun _ i _ => N - (intOf i).toNat)
  case atStart => exact ⟨0, [], rfl, rfl, by simp, Nat.zero_le _, hI, hc, hG⟩
  case round =>
    clear hI hc hG
    obtain ⟨k, L, rfl, hLk, hLv, hk, hI, hc, hG⟩ := hrel
    have HLV : Hid (∀ y ∈ L, -1 ≤ y ∧ y ≤ 40) := hLv
    clear hLv
    have hi := hi0
    have HLK : Hid (L.length = k) := hLk
    have HL5 : L.length ≤ 5 := by omega
    clear hLk
    by_cases hlt0 : k < N
    · go_wp2_with fail
      refine (c_l1Below g wide hw _ hc).mono ?_
      rintro e w2 ⟨x, rfl, hx0, hx1, _, hc2, hg⟩
      have HXV : Hid (-1 ≤ x ∧ x ≤ 40) := by
        have := hx1 hw40.1
        show -1 ≤ x ∧ x ≤ 40
        omega
      clear hx0 hx1
      replace hI := hI.cur hg hlt
      replace hG := grown_trans hG hg
      clear hc hg
      go_wp2_with fail
      refine (c_l1Once g 12 (by omega) _ hc2).mono ?_
      rintro e w3 ⟨t, rfl, hc3, hg⟩
      replace hI := hI.cur hg hlt
      replace hG := grown_trans hG hg
      clear hc2 hg
      cases t
      · go_wp2_with (first | (at_builtin; refine wpList_append_own _ rfl _ _ 50 rfl w.heap.size 3 i0 (.int .i64 0) 1 8 Tryd.underlying50 hi hz0 hz1 hz2 rfl (by decide) _ _ _ rfl (World.ownsRow.alloc hI _) _ 1 1 [.int .i64 (x)] rfl rfl (by intro j u hj; match j, hj with | 0, hj => simp at hj; subst hj; simp [Addr.add]) (by intro u hu; simp at hu; subst hu; rfl) (by unfold maxLen; omega) (by omega) (by have := hG.size; simp; omega) ?_; intro v' w9 hown hgrow _; have hc9 := Cur.grown (cur_alloc hc3 _) hgrow (fun k e => by have := (World.ownsRow.lt hI k e).1; omega); have hG9 := grown_more (grown_trans hG (grown_of_below ((Below.refl _ _).alloc (Nat.le_refl _) _) _)) hgrow (fun k e => (World.ownsRow.lt hI k e).1); replace hI := OwnI.snoc hown; clear hown hgrow hG hc3) | fail)
        go_roundw
        case rel => exact ⟨k + 1, L ++ [x], by go_num, by simp; exact HLK.out, snoc_all HLV.out HXV.out, by omega, hI, hc9, hG9⟩
        case measure => simp [intOf]; omega
      · go_wp2_with (first | (at_builtin; refine wpList_append_own _ rfl _ _ 50 rfl w.heap.size 3 i0 (.int .i64 0) 1 8 Tryd.underlying50 hi hz0 hz1 hz2 rfl (by decide) _ _ _ rfl (World.ownsRow.alloc hI _) _ 1 1 [.int .i64 (-1)] rfl rfl (by intro j u hj; match j, hj with | 0, hj => simp at hj; subst hj; simp [Addr.add]) (by intro u hu; simp at hu; subst hu; rfl) (by unfold maxLen; omega) (by omega) (by have := hG.size; simp; omega) ?_; intro v' w9 hown hgrow _; have hc9 := Cur.grown (cur_alloc hc3 _) hgrow (fun k e => by have := (World.ownsRow.lt hI k e).1; omega); have hG9 := grown_more (grown_trans hG (grown_of_below ((Below.refl _ _).alloc (Nat.le_refl _) _) _)) hgrow (fun k e => (World.ownsRow.lt hI k e).1); replace hI := OwnI.snoc hown; clear hown hgrow hG hc3) | fail)
        go_roundw
        case rel => exact ⟨k + 1, L ++ [-1], by go_num, by simp; exact HLK.out, snoc_all HLV.out (show (-1 : Int) ≤ -1 ∧ (-1 : Int) ≤ 40 by decide), by omega, hI, hc9, hG9⟩
        case measure => simp [intOf]; omega
    · have HK : Hid (L.length = N) := by show L.length = N; have := HLK.out; omega
      obtain ⟨o, c, rfl⟩ := hI.shape
      go_wp2
      go_ret
      exact ⟨o, c, L, rfl, hI, ⟨HK.out, HLV.out⟩, hc, hG⟩
set_option maxHeartbeats 6400000 in
theorem c_l3TableS (g : Nat) (w : World) (hc : Cur w g) :
    Calls Tryd.prog 64 #[.pointer (some ⟨g, 0, none⟩)] w fun e w' => ∃ (N : Nat) (o : Option Addr) (c : Nat) (xs : List Value) (R : List (List Int)), e = .returned (.agg #[.int .i64 N, .slice o R.length c]) ∧ OwnRows w' w.heap.size (.slice o R.length c) xs R ∧ (2 ≤ N ∧ N ≤ 4 ∧ R.length ≤ 12 ∧ isTabF N R = true) ∧ Cur w' g ∧ w.grownBy w' (some g) := by
  obtain ⟨i0, hi, hz0, hz1, hz2⟩ := info_parts info_int
  obtain ⟨j0, hj, hy0, hy1, hy2⟩ := info_parts info_ints
  have hlt := hc.lt
  have kZ := Blk.new w #[.int .i64 0, .slice none 0 0] 26
  have hG := grown_of_below ((Below.refl w.heap.size w).alloc (Nat.le_refl _) (.cells #[.int .i64 0, .slice none 0 0] 26)) (some g)
  replace hc := cur_alloc hc (.cells #[.int .i64 0, .slice none 0 0] 26)
  go_enter Tryd.func64, Tryd.ntmps64
  go_wp2_with fail
  refine (c_l1Below g 3 (by omega) _ hc).mono ?_
  rintro e w1 ⟨q, rfl, hq0, hq1, _, hc1, hg⟩
  replace kZ := kZ.cur hg (show w.heap.size ≠ g by omega)
  replace hG := grown_trans hG hg
  have hq2 := hq1 (by omega)
  clear hc hg hq1
  have hz := kZ.lt
  have kT := Blk.new w1 #[.int .i64 ((2 : Int) + q), .slice none 0 0] 26
  have hba := (Below.refl w1.heap.size w1).alloc (Nat.le_refl _) (.cells #[.int .i64 ((2 : Int) + q), .slice none 0 0] 26)
  replace kZ := kZ.keep hba
  replace hc1 := hc1.keep hba
  replace hG := grown_trans hG (grown_of_below hba _)
  clear hba
  go_upto_region 2 with fail
  generalize w1.alloc (.cells #[.int .i64 ((2 : Int) + q), .slice none 0 0] 26) = w2 at *
  obtain ⟨k6, hk6⟩ : ∃ k, w1.heap.size = k := ⟨_, rfl⟩
  rw [hk6] at kT hz
  simp only [hk6]
  clear hk6
  obtain ⟨N, hN⟩ : ∃ N : Nat, (2 : Int) + q = N := ⟨(2 + q).toNat, by omega⟩
  have hN2 : 2 ≤ N ∧ N ≤ 4 := by omega
  simp only [hN] at kT ⊢
  clear hN hq0 hq2
  go_wp2_with fail
  refine (c_l1Below g 3 (by omega) _ hc1).mono ?_
  rintro e w3 ⟨q3, rfl, hq0, hq1, _, hc3, hg⟩
  replace kZ := kZ.cur hg (show w.heap.size ≠ g by omega)
  replace kT := kT.cur hg (show k6 ≠ g by omega)
  replace hG := grown_trans hG hg
  have hq2 := hq1 (by omega)
  clear hc1 hg hq1
  go_wp2_with fail
  obtain ⟨wd, hwd⟩ : ∃ z, (2 : Int) + q3 = z := ⟨_, rfl⟩
  have hw4 : wd ≤ 256 := by omega
  have hw41 : 0 < wd ∧ wd ≤ 41 := by omega
  simp only [hwd]
  clear hwd hq0 hq2
  refine (c_l1Below g 7 (by omega) _ hc3).mono ?_
  rintro e w4 ⟨q4, rfl, hq0, hq1, _, hc4, hg⟩
  replace kZ := kZ.cur hg (show w.heap.size ≠ g by omega)
  replace kT := kT.cur hg (show k6 ≠ g by omega)
  replace hG := grown_trans hG hg
  obtain ⟨k0, rfl⟩ := Int.eq_ofNat_of_zero_le hq0
  have hk0 : k0 ≤ 6 := by have := hq1 (by omega); omega
  clear hc3 hg hq0 hq1
  have hO := OwnRows.none w4 (w.heap.size + 1)
  go_wp2_with fail
  go_loopw [5] (fun i wr => ∃ (k : Nat) (R : List (List Int)) (o : Option Addr) (c : Nat) (xs : List Value), i = .int .i64 k ∧ R.length + 2 * k ≤ 12 ∧ (∀ j, j < R.length → rowOk N (row R j) = true) ∧ Blk wr k6 #[.int .i64 N, .slice o R.length c] 26 ∧ OwnRows wr (w.heap.size + 1) (.slice o R.length c) xs R ∧ Avoid k6 (.slice o R.length c) xs ∧ Cur wr g ∧ w.grownBy wr (some g) ∧ Blk wr w.heap.size #[.int .i64 0, .slice none 0 0] 26) (fun i _ => (intOf i).toNat)
  case atStart => exact ⟨k0, [], none, 0, [], rfl, by simp; omega, fun j hj => absurd hj (by simp), kT, hO, (fun y hy e => by rcases hy with rfl | hy; (simp [Value.ownBlock] at e); cases hy), hc4, hG, kZ⟩
  case round =>
    clear kT hO hc4 hG kZ
    obtain ⟨k, R, o, c, xs, rfl, hk, hlen, kT, hO, av, hc, hG, kZ⟩ := hrel
    have HLn : Hid (∀ j, j < R.length → rowOk N (row R j) = true) := hlen
    clear hlen
    have hRl : R.length ≤ 12 := by omega
    have hxl := hO.len
    by_cases hlt0 : 0 < k
    · have n0 := kT.cell 0 (.int .i64 N) rfl
      have hkt := kT.lt
      go_wp2_with fail
      refine (c_l3RandomRowS g N (by omega) wd hw4 hw41 _ hc).mono ?_
      rintro e w5 ⟨o5, c5, C, rfl, hI, ⟨hCN, hCv⟩, hc5, hg⟩
      have HCV : Hid (∀ y ∈ C, -1 ≤ y ∧ y ≤ 40) := hCv
      clear hCv
      have apI := OwnRows.fresh hO hI
      have avI : (Value.slice o5 C.length c5).ownBlock ≠ some k6 := fun e9 => by have := (World.ownsRow.lt hI _ e9).1; omega
      have HCN : Hid (C.length = N) := hCN
      have hC5 : C.length ≤ 5 := by omega
      have hC0 : 0 < C.length := by omega
      clear hCN
      replace hI := hI.based (show w.heap.size + 1 ≤ _ by omega)
      replace kT := kT.cur hg (show k6 ≠ g by omega)
      replace kZ := kZ.cur hg (show w.heap.size ≠ g by omega)
      replace hO := hO.cur hg (show g < w.heap.size + 1 by omega)
      replace hG := grown_trans hG hg
      clear hc hg n0
      have n1 := kT.cell 1 (.slice o R.length c) rfl
      go_wp2_with (first | (at_builtin; refine wpList_append_fresh rfl _ _ 24 rfl (w.heap.size + 1) 50 j0 (.slice none 0 0) 1 24 Tryd.underlying24 hj hy0 hy1 hy2 rfl (by decide) _ _ _ rfl (World.ownsRow.alloc hO.outer _) _ 1 1 [.slice o5 C.length c5] rfl rfl (World.news_of_block (cs := #[.slice o5 C.length c5]) (t := 50) (fr := (0, 0)) (heap_new_at (by simp))) (by intro u hu; simp at hu; subst hu; rfl) (by unfold maxLen; omega) (by omega) (by have := kT.lt; simp at this ⊢; omega) ?_; intro v7 w7 hown hgrow hfr; obtain ⟨⟨o7, c7, rfl⟩, s7, t7, kT7, hO7, av7, hc7, hG7, hoth, hblk⟩ := tab_snocG rfl hO hI apI kT av avI hc5 hG (Nat.le_succ _) (show w.heap.size ≤ k6 by omega) (show g < k6 by omega) hown hgrow hfr; have kZ7 := hblk _ _ _ kZ (show w.heap.size ≠ k6 by omega) (fun e => by have := (World.ownsRow.lt hO.outer _ e).1; omega); have hI7 := (hoth _ _ _ _ _ _ hI apI.1.symm avI).1; clear hown hgrow hfr hblk hoth) | fail)
      have hl7 : R.length + 1 = (R ++ [C]).length := by simp
      have HL7 : Hid (∀ j, j < (R ++ [C]).length → rowOk N (row (R ++ [C]) j) = true) := fun j hj => by
        by_cases h : j < R.length
        · rw [row_append_lt h]; exact HLn.out j h
        · have : j = R.length := by simp at hj; omega
          rw [this, row_append_end]; exact rowOk_of HCN.out HCV.out
      refine (c_l1Once g 3 (by omega) _ hc7).mono ?_
      rintro e w8 ⟨t, rfl, hc8, hg⟩
      replace kT7 := kT7.cur hg (show k6 ≠ g by omega)
      replace kZ7 := kZ7.cur hg (show w.heap.size ≠ g by omega)
      replace hO7 := hO7.cur hg (show g < w.heap.size + 1 by omega)
      replace hI7 := owns_cur hI7 hg (show g < w.heap.size + 1 by omega)
      replace hG7 := grown_trans hG7 hg
      clear hc7 hg n1 s7 t7 kT hO hI kZ hG hc5 av apI avI
      rw [hl7] at kT7 hO7 av7
      have hP : (R ++ [C]).length ≤ 13 := by simp; omega
      have hPk : (R ++ [C]).length + 2 * k ≤ 13 := by simp; omega
      clear hl7
      generalize R ++ [C] = P at *
      generalize xs ++ [Value.slice o5 C.length c5] = ys at *
      cases t
      · go_wp2_with fail
        go_roundw
        case rel => exact ⟨k - 1, P, o7, c7, ys, by go_num, by omega, HL7.out, kT7, hO7, av7, hc8, hG7, kZ7⟩
        case measure => simp [intOf]; omega
      · have hk8 := kT7.lt
        have hba := (Below.refl w8.heap.size w8).alloc (Nat.le_refl _) (.cells #[] 3)
        have hE := OwnI.empty w8 w8.heap.size (Nat.le_refl _)
        obtain ⟨gr, rfl, _⟩ := OwnI.news (show OwnI w8 (w.heap.size + 1) (.slice o5 C.length c5) C from hI7) hC0
        have HB : Hid (∀ j u, (C.map encI)[j]? = some u → (w8.alloc (.cells #[] 3)).cell? ((⟨gr, 0, none⟩ : Addr).add j) = some u) := by
          obtain ⟨gr', e', h'⟩ := OwnI.news (OwnI.keep (show OwnI w8 (w.heap.size + 1) (.slice (some ⟨gr, 0, none⟩) C.length c5) C from hI7) hba) hC0
          cases e'; exact h'
        have old7 := hO7.old (Nat.le_refl _)
        go_wp2_with (first | (at_builtin; refine wpList_append_own _ rfl _ _ 50 rfl w8.heap.size 3 i0 (.int .i64 0) 1 8 Tryd.underlying50 hi hz0 hz1 hz2 rfl (by decide) (.slice (some ⟨w8.heap.size, 0, none⟩) 0 0) 0 [] rfl hE ⟨gr, 0, none⟩ C.length _ (C.map encI) rfl (by simp) HB.out (ones C) (by unfold maxLen; simp; omega) (by simp; omega) (by simp) ?_; intro v9 w9 hown hgrow _; have hX : OwnI w9 w8.heap.size v9 C := (by unfold OwnI; simpa using hown); have hb9 := hba.grown hgrow (by simp) (fun g hg => (World.ownsRow.lt hE g hg).1); clear hown hgrow; obtain ⟨o9, c9, rfl⟩ := hX.shape; have apX := OwnRows.fresh hO7 hX; replace kT7 := kT7.keep hb9; replace kZ7 := kZ7.keep hb9; replace hO7 := hO7.keep hb9; replace hc8 := hc8.keep hb9; replace hG7 := grown_trans hG7 (grown_of_below hb9 _); have n0 := kT7.cell 0 (.int .i64 N) rfl; clear hb9 hba hE) | fail)
        refine (c_l1Below g N (by omega) _ hc8).mono ?_
        rintro e w10 ⟨qj, rfl, hj0, hj1, _, hc10, hg⟩
        obtain ⟨jn, rfl⟩ := Int.eq_ofNat_of_zero_le hj0
        have hjC : jn < C.length := by have := hj1 (by omega); have := HCN.out; omega
        replace kT7 := kT7.cur hg (show k6 ≠ g by omega)
        replace kZ7 := kZ7.cur hg (show w.heap.size ≠ g by omega)
        replace hO7 := hO7.cur hg (show g < w.heap.size + 1 by omega)
        replace hX := hX.cur hg (show g < w8.heap.size by omega)
        replace hG7 := grown_trans hG7 hg
        clear hc8 hg n0 hj0 hj1
        go_wp2_with fail
        refine (c_l1Below g wd hw4 _ hc10).mono ?_
        rintro e w11 ⟨xv, rfl, hv0, hv1, _, hc11, hg⟩
        have HXV : Hid (-1 ≤ xv ∧ xv ≤ 40) := by
          have := hv1 hw41.1
          show -1 ≤ xv ∧ xv ≤ 40
          omega
        clear hv0 hv1
        replace kT7 := kT7.cur hg (show k6 ≠ g by omega)
        replace kZ7 := kZ7.cur hg (show w.heap.size ≠ g by omega)
        replace hO7 := hO7.cur hg (show g < w.heap.size + 1 by omega)
        replace hX := hX.cur hg (show g < w8.heap.size by omega)
        replace hG7 := grown_trans hG7 hg
        clear hc10 hg
        obtain ⟨gx, rfl, _⟩ := hX.news hC0
        have hgx := (World.ownsRow.lt hX gx rfl).1
        have avx : Avoid gx (.slice o7 P.length c7) ys := fun y hy e => by have := old7 y hy _ e; omega
        obtain ⟨x1, x2⟩ := hX.cell rfl jn hjC
        replace hX := hX.store rfl jn xv
        replace kT7 := kT7.far ⟨gx, jn, none⟩ (.int .i64 xv) (show k6 ≠ gx by omega)
        replace kZ7 := kZ7.far ⟨gx, jn, none⟩ (.int .i64 xv) (show w.heap.size ≠ gx by omega)
        replace hO7 := ownRows_setAvoid hO7 avx jn (.int .i64 xv)
        replace hc11 := hc11.set (j := jn) (v := .int .i64 xv) (show g < gx by omega)
        replace hG7 := grown_new (j := jn) (v := .int .i64 xv) hG7 (show w.heap.size ≤ gx by omega)
        have hjj : (0 : Int) ≤ jn ∧ (jn : Int) < C.length := by omega
        have n1 := kT7.cell 1 (.slice o7 P.length c7) rfl
        have hyl := hO7.len
        replace hX := hX.based (show w.heap.size + 1 ≤ w8.heap.size by omega)
        have avX : (Value.slice (some ⟨gx, 0, none⟩) C.length c9).ownBlock ≠ some k6 := fun e9 => by simp [Value.ownBlock] at e9; omega
        go_wp2_with (first | (at_builtin; refine wpList_append_fresh rfl _ _ 24 rfl (w.heap.size + 1) 50 j0 (.slice none 0 0) 1 24 Tryd.underlying24 hj hy0 hy1 hy2 rfl (by decide) _ _ _ rfl (World.ownsRow.alloc hO7.outer _) _ 1 1 [.slice (some ⟨gx, 0, none⟩) C.length c9] rfl rfl (World.news_of_block (cs := #[.slice (some ⟨gx, 0, none⟩) C.length c9]) (t := 50) (fr := (0, 0)) (heap_new_at (by simp))) (by intro u hu; simp at hu; subst hu; rfl) (by unfold maxLen; omega) (by omega) (by have := kT7.lt; simp at this ⊢; omega) ?_; intro v12 w12 hown hgrow hfr; obtain ⟨⟨o8, c8, rfl⟩, s8, t8, kT8, hO8, av8, hc9, hG8, hoth, hblk⟩ := tab_snocG (show (C.set jn xv).length = C.length by simp) hO7 hX apX kT7 av7 avX hc11 hG7 (Nat.le_succ _) (show w.heap.size ≤ k6 by omega) (show g < k6 by omega) hown hgrow hfr; have kZ8 := hblk _ _ _ kZ7 (show w.heap.size ≠ k6 by omega) (fun e => by have := (World.ownsRow.lt hO7.outer _ e).1; omega); clear hown hgrow hfr hblk hoth) | fail)
        have hl8 : P.length + 1 = (P ++ [C.set jn xv]).length := by simp
        have HL8 : Hid (∀ j, j < (P ++ [C.set jn xv]).length → rowOk N (row (P ++ [C.set jn xv]) j) = true) := fun j hj => by
          by_cases h : j < P.length
          · rw [row_append_lt h]; exact HL7.out j h
          · have : j = P.length := by simp at hj; omega
            rw [this, row_append_end]; exact rowOk_of (by rw [List.length_set]; exact HCN.out) (set_all HCV.out HXV.out)
        rw [hl8] at kT8 hO8 av8
        have hPk8 : (P ++ [C.set jn xv]).length + 2 * (k - 1) ≤ 12 := by simp; omega
        clear hl8
        go_roundw
        case rel => exact ⟨k - 1, P ++ [C.set jn xv], o8, c8, _, by go_num, hPk8, HL8.out, by rw [show (P ++ [C.set jn xv]).length = P.length + 1 by simp] at *; exact kT8, by rw [show (P ++ [C.set jn xv]).length = P.length + 1 by simp] at *; exact hO8, by rw [show (P ++ [C.set jn xv]).length = P.length + 1 by simp] at *; exact av8, hc9, hG8, kZ8⟩
        case measure => simp [intOf]; omega
    · have HK : Hid (k = 0) := by show k = 0; omega
      have r0 := kT.cell 0 (.int .i64 N) rfl
      have r1 := kT.cell 1 (.slice o R.length c) rfl
      have z0 := kZ.cell 0 (.int .i64 0) rfl
      have z1 := kZ.cell 1 (.slice none 0 0) rfl
      have f0 := kZ.free 0
      have f1 := kZ.free 1
      have k2 : Blk _ w.heap.size #[.int .i64 N, .slice o R.length c] 26 := (kZ.set 0 (.int .i64 N)).set 1 (.slice o R.length c)
      have q0 := k2.cell 0 (.int .i64 N) rfl
      have q1 := k2.cell 1 (.slice o R.length c) rfl
      go_wp2
      refine bodyPost_ret (v := .agg #[.int .i64 N, .slice o R.length c]) (by simp only [results, Tryd.results64]; simp [go_sem, q0, q1]) rfl ?_
      exact ⟨N, o, c, xs, R, rfl, ((hO.far_set 0 (.int .i64 N) (Nat.lt_succ_self _)).far_set 1 (.slice o R.length c) (Nat.lt_succ_self _)).based (Nat.le_succ _), ⟨hN2.1, hN2.2, hRl, isTab_mk HLn.out hN2 (by omega)⟩, (hc.set (j := 0) (v := .int .i64 N) hlt).set (j := 1) (v := .slice o R.length c) hlt, grown_new (j := 1) (v := .slice o R.length c) (grown_new (j := 0) (v := .int .i64 N) hG (Nat.le_refl _)) (Nat.le_refl _)⟩
end Go.Proofs.YtcenndlbhgfdfaaDoor
namespace Go.Proofs.YtcenndlbhgfdfaaDoor
open Go.RowKit
set_option linter.unusedVariables false
set_option maxRecDepth 100000

set_option maxHeartbeats 3200000 in
theorem c_l3Any (g : Nat) (w : World) (hc : Cur w g) :
    Calls Tryd.prog 67 #[.pointer (some ⟨g, 0, none⟩)] w fun e w' => ∃ (n : Int) (o : Option Addr) (c : Nat) (xs : List Value) (R : List (List Int)), e = .returned (.agg #[.int .i64 n, .slice o R.length c]) ∧ OwnRows w' w.heap.size (.slice o R.length c) xs R ∧ (R.length ≤ 13 ∧ ∀ j, j < R.length → (row R j).length ≤ 5) ∧ Cur w' g ∧ w.grownBy w' (some g) := by
  obtain ⟨i0, hi, hz0, hz1, hz2⟩ := info_parts info_int
  obtain ⟨j0, hj, hy0, hy1, hy2⟩ := info_parts info_ints
  have hlt := hc.lt
  have kZ := Blk.new w #[.int .i64 0, .slice none 0 0] 26
  have hG := grown_of_below ((Below.refl w.heap.size w).alloc (Nat.le_refl _) (.cells #[.int .i64 0, .slice none 0 0] 26)) (some g)
  replace hc := cur_alloc hc (.cells #[.int .i64 0, .slice none 0 0] 26)
  go_enter Tryd.func67, Tryd.ntmps67
  go_wp2_with fail
  refine (c_l3Table g _ hc).mono ?_
  rintro e w1 ⟨N, o, c, xs, R, rfl, hO, ⟨_, _, hRl, hlen⟩, hc1, hg⟩
  have HLn : Hid (∀ j, j < R.length → (row R j).length ≤ 5) := hlen
  clear hlen
  simp only [World.size_alloc] at hO
  replace kZ := kZ.cur hg (show w.heap.size ≠ g by omega)
  replace hG := grown_trans hG hg
  clear hc hg
  have kT := Blk.new w1 #[.int .i64 N, .slice o R.length c] 26
  have hz := kZ.lt
  have av : Avoid w1.heap.size (.slice o R.length c) xs := fun y hy e => by
    have := hO.old (Nat.le_refl _) y hy _ e
    omega
  have hba := (Below.refl w1.heap.size w1).alloc (Nat.le_refl _) (.cells #[.int .i64 N, .slice o R.length c] 26)
  replace kZ := kZ.keep hba
  replace hO := hO.keep hba
  replace hc1 := hc1.keep hba
  replace hG := grown_trans hG (grown_of_below hba _)
  clear hba
  go_upto_region 2 with fail
  generalize w1.alloc (.cells #[.int .i64 N, .slice o R.length c] 26) = w2 at *
  obtain ⟨k6, hk6⟩ : ∃ k, w1.heap.size = k := ⟨_, rfl⟩
  rw [hk6] at kT hz av
  simp only [hk6]
  clear hk6
  go_wp2_with fail
  refine (c_l1Below g 12 (by omega) _ hc1).mono ?_
  rintro e w3 ⟨q, rfl, _, _, _, hc3, hg⟩
  replace kZ := kZ.cur hg (show w.heap.size ≠ g by omega)
  replace kT := kT.cur hg (show k6 ≠ g by omega)
  replace hO := hO.cur hg (show g < w.heap.size + 1 by omega)
  replace hG := grown_trans hG hg
  clear hc1 hg
  have hk6 := kT.lt
  have hlt3 := hc3.lt
  by_cases e0 : q = 0
  · have hL := fun T => lit_ints w3 #[.int .i64 0, .int .i64 1, .int .i64 5, .int .i64 6] [0, 1, 5, 6] (by simp) (fun k hk => by match k, hk with | 0, _ => rfl | 1, _ => rfl | 2, _ => rfl | 3, _ => rfl) T
    go_wp2_with fail
    refine (c_l1PickInt g _ 4 [0, 1, 5, 6] (by simp) (by simp) _ (cur_alloc hc3 _) (hL _) (fun a e => by injection e with e; subst e; simp; omega)).mono ?_
    rintro e w4 ⟨n, rfl, _, hc4, hg⟩
    replace hg := grown_alloc hg
    replace kZ := kZ.cur hg (show w.heap.size ≠ g by omega)
    replace kT := kT.cur hg (show k6 ≠ g by omega)
    replace hO := hO.cur hg (show g < w.heap.size + 1 by omega)
    replace hG := grown_trans hG hg
    clear hc3 hg hL
    have n0 := kT.cell 0 (.int .i64 N) rfl
    have g0 := kT.free 0
    have kT2 : Blk _ k6 #[.int .i64 n, .slice o R.length c] 26 := kT.set 0 (.int .i64 n)
    have kZ2 := kZ.far ⟨k6, 0, none⟩ (.int .i64 n) (show w.heap.size ≠ k6 by omega)
    have hO2 := ownRows_setAvoid hO av 0 (.int .i64 n)
    have hc5 := hc4.set (j := 0) (v := .int .i64 n) (show g < k6 by omega)
    have hG2 := grown_new (j := 0) (v := .int .i64 n) hG (show w.heap.size ≤ k6 by omega)
    clear kZ hO hc4 hG
    have r0 := kT2.cell 0 (.int .i64 n) rfl
    have r1 := kT2.cell 1 (.slice o R.length c) rfl
    have z0 := kZ2.cell 0 (.int .i64 0) rfl
    have z1 := kZ2.cell 1 (.slice none 0 0) rfl
    have f0 := kZ2.free 0
    have f1 := kZ2.free 1
    have k2 : Blk _ w.heap.size #[.int .i64 n, .slice o R.length c] 26 := (kZ2.set 0 (.int .i64 n)).set 1 (.slice o R.length c)
    have q0 := k2.cell 0 (.int .i64 n) rfl
    have q1 := k2.cell 1 (.slice o R.length c) rfl
    go_wp2
    refine bodyPost_ret (v := .agg #[.int .i64 n, .slice o R.length c]) (by simp only [results, Tryd.results67]; simp [go_sem, q0, q1]) rfl ?_
    exact ⟨n, o, c, xs, R, rfl, ((hO2.far_set 0 (.int .i64 n) (Nat.lt_succ_self _)).far_set 1 (.slice o R.length c) (Nat.lt_succ_self _)).based (Nat.le_succ _), ⟨by omega, HLn.out⟩, (hc5.set (j := 0) (v := .int .i64 n) hlt).set (j := 1) (v := .slice o R.length c) hlt, grown_new (j := 1) (v := .slice o R.length c) (grown_new (j := 0) (v := .int .i64 n) hG2 (Nat.le_refl _)) (Nat.le_refl _)⟩
  · by_cases e1 : q = 1
    · have hL := fun T => lit_ints w3 #[.int .i64 (-2), .int .i64 (-1), .int .i64 40, .int .i64 41] [-2, -1, 40, 41] (by simp) (fun k hk => by match k, hk with | 0, _ => rfl | 1, _ => rfl | 2, _ => rfl | 3, _ => rfl) T
      have hxl := hO.len
      have n1 := kT.cell 1 (.slice o R.length c) rfl
      have n1d := kT.drew.cell 1 (.slice o R.length c) rfl
      have n1a := fun cs T => (kT.alloc (.cells cs T)).cell 1 (.slice o R.length c) rfl
      have n1b := fun cs T => (kT.alloc (.cells cs T)).drew.cell 1 (.slice o R.length c) rfl
      go_wp2_with fail
      go_region_law (first
        | ((try go_simp); refine (c_l1PickInt g _ 4 [-2, -1, 40, 41] (by simp) (by simp) _ (by first | exact cur_alloc hc3 _ | exact (cur_alloc hc3 _).keep (Below.refl _ _).drew | exact cur_alloc (hc3.keep (Below.refl _ _).drew) _) (by first | exact hL _ | exact (hL _).keep (Below.refl _ _).drew) (fun a e => by injection e with e; subst e; simp; omega)).mono ?_; rintro e w5 ⟨x, rfl, _, hc5, hg⟩; have hg3 : w3.grownBy w5 (some g) := (by first | exact grown_alloc hg | exact grown_alloc (drew_grown hg) | exact drew_grown (grown_alloc hg)); have kT5 := kT.cur hg3 (show k6 ≠ g by omega); have kZ5 := kZ.cur hg3 (show w.heap.size ≠ g by omega); have hO5 := hO.cur hg3 (show g < w.heap.size + 1 by omega); have hG5 := grown_trans hG hg3; have q5 := kT5.cell 1 (.slice o R.length c) rfl; have q5a := fun cs T => (kT5.alloc (.cells cs T)).cell 1 (.slice o R.length c) rfl; have q5b := fun cs T cs' T' => ((kT5.alloc (.cells cs T)).alloc (.cells cs' T')).cell 1 (.slice o R.length c) rfl; clear hg hg3)
        | (have hba := (Below.refl w5.heap.size w5).alloc (Nat.le_refl _) (.cells #[.int .i64 1, .int .i64 x] 3); have hI6 : OwnI (w5.alloc (.cells #[.int .i64 1, .int .i64 x] 3)) w5.heap.size (.slice (some ⟨w5.heap.size, 0, none⟩) 2 2) [1, x] := World.ownsRow_lit w5 #[.int .i64 1, .int .i64 x] 2 (Nat.le_refl _) (by decide) rfl; have ap6 := OwnRows.fresh hO5 hI6; have kT6 := kT5.keep hba; have kZ6 := kZ5.keep hba; have hO6 := hO5.keep hba; have hc6 := hc5.keep hba; have hG6 := grown_trans hG5 (grown_of_below hba _); have hk5 := kT5.lt; refine step_append_held _ (by rfl) _ _ 24 (by rfl) (w.heap.size + 1) 50 j0 (.slice none 0 0) 1 24 Tryd.underlying24 hj hy0 hy1 hy2 rfl (by decide) (.slice o R.length c) _ _ (by rfl) (World.ownsRow.alloc hO6.outer _) _ 1 1 [.slice (some ⟨w5.heap.size, 0, none⟩) 2 2] (by rfl) rfl (World.news_of_block (cs := #[.slice (some ⟨w5.heap.size, 0, none⟩) 2 2]) (t := 50) (fr := (0, 0)) (heap_new_at (by simp))) (by intro u hu; simp at hu; subst hu; rfl) (by unfold maxLen; omega) (by omega) (by simp; omega) ?_; intro v7 w7 hown _ hgrow hfr; obtain ⟨⟨o7, c7, rfl⟩, s7, t7, kT7, hO7, av7, hc7, hG7, hoth, hblk⟩ := tab_snocG (nC := 2) (C := [1, x]) rfl hO6 (hI6.based (show w.heap.size + 1 ≤ w5.heap.size by omega)) ap6 kT6 av (fun e9 => by simp [Value.ownBlock] at e9; omega) hc6 hG6 (Nat.le_succ _) (show w.heap.size ≤ k6 by omega) (show g < k6 by omega) hown hgrow hfr; have kZ7 := hblk _ _ _ kZ6 (show w.heap.size ≠ k6 by omega) (fun e => by have := (World.ownsRow.lt hO6.outer _ e).1; omega); clear hown hgrow hfr hblk hoth)
        | fail)
      all_goals
        have HL7 : Hid (∀ j, j < (R ++ [[1, x]]).length → (row (R ++ [[1, x]]) j).length ≤ 5) := fun j hj => by
          by_cases h : j < R.length
          · rw [row_append_lt h]; exact HLn.out j h
          · have : j = R.length := by simp at hj; omega
            rw [this, row_append_end]; simp
        have hO8 := hO7
        clear hO7 s7 t7 q5 q5a q5b n1 n1d n1a n1b hL
        generalize w7.setCell ⟨k6, 1, none⟩ (.slice o7 (R.length + 1) c7) = w8 at *
        have r0 := kT7.cell 0 (.int .i64 N) rfl
        have r1 := kT7.cell 1 (.slice o7 (R.length + 1) c7) rfl
        have z0 := kZ7.cell 0 (.int .i64 0) rfl
        have z1 := kZ7.cell 1 (.slice none 0 0) rfl
        have f0 := kZ7.free 0
        have f1 := kZ7.free 1
        have k2 : Blk _ w.heap.size #[.int .i64 N, .slice o7 (R.length + 1) c7] 26 := (kZ7.set 0 (.int .i64 N)).set 1 (.slice o7 (R.length + 1) c7)
        have q0 := k2.cell 0 (.int .i64 N) rfl
        have q1 := k2.cell 1 (.slice o7 (R.length + 1) c7) rfl
        go_wp2
        refine bodyPost_ret (v := .agg #[.int .i64 N, .slice o7 (R.length + 1) c7]) (by simp only [results, Tryd.results67]; simp [go_sem, q0, q1]) rfl ?_
        have hl7 : R.length + 1 = (R ++ [[1, x]]).length := by simp
        refine ⟨N, o7, c7, xs ++ [.slice (some ⟨w5.heap.size, 0, none⟩) 2 2], R ++ [[1, x]], by rw [← hl7], ?_, ⟨by simp; omega, HL7.out⟩, (hc7.set (j := 0) (v := .int .i64 N) hlt).set (j := 1) (v := .slice o7 (R.length + 1) c7) hlt, grown_new (j := 1) (v := .slice o7 (R.length + 1) c7) (grown_new (j := 0) (v := .int .i64 N) hG7 (Nat.le_refl _)) (Nat.le_refl _)⟩
        rw [← hl7]
        exact ((hO8.far_set 0 (.int .i64 N) (Nat.lt_succ_self _)).far_set 1 (.slice o7 (R.length + 1) c7) (Nat.lt_succ_self _)).based (Nat.le_succ _)
    · skip
      have r0 := kT.cell 0 (.int .i64 N) rfl
      have r1 := kT.cell 1 (.slice o R.length c) rfl
      have z0 := kZ.cell 0 (.int .i64 0) rfl
      have z1 := kZ.cell 1 (.slice none 0 0) rfl
      have f0 := kZ.free 0
      have f1 := kZ.free 1
      have k2 : Blk _ w.heap.size #[.int .i64 N, .slice o R.length c] 26 := (kZ.set 0 (.int .i64 N)).set 1 (.slice o R.length c)
      have q0 := k2.cell 0 (.int .i64 N) rfl
      have q1 := k2.cell 1 (.slice o R.length c) rfl
      go_wp2
      refine bodyPost_ret (v := .agg #[.int .i64 N, .slice o R.length c]) (by simp only [results, Tryd.results67]; simp [go_sem, q0, q1]) rfl ?_
      exact ⟨N, o, c, xs, R, rfl, ((hO.far_set 0 (.int .i64 N) (Nat.lt_succ_self _)).far_set 1 (.slice o R.length c) (Nat.lt_succ_self _)).based (Nat.le_succ _), ⟨by omega, HLn.out⟩, (hc3.set (j := 0) (v := .int .i64 N) hlt).set (j := 1) (v := .slice o R.length c) hlt, grown_new (j := 1) (v := .slice o R.length c) (grown_new (j := 0) (v := .int .i64 N) hG (Nat.le_refl _)) (Nat.le_refl _)⟩
set_option maxHeartbeats 3200000 in
theorem c_l4Draw (g : Nat) (w : World) (hc : Cur w g) :
    Calls Tryd.prog 49 #[.pointer (some ⟨g, 0, none⟩)] w fun e w' => ∃ (n m : Int) (o : Option Addr) (c : Nat) (xs : List Value) (R : List (List Int)), e = .returned (.tuple #[.agg #[.int .i64 n, .slice o R.length c], .int .i64 m]) ∧ OwnRows w' w.heap.size (.slice o R.length c) xs R ∧ (R.length ≤ 13 ∧ ∀ j, j < R.length → (row R j).length ≤ 5) ∧ Cur w' g ∧ w.grownBy w' (some g) := by
  obtain ⟨i0, hi, hz0, hz1, hz2⟩ := info_parts info_int
  obtain ⟨j0, hj, hy0, hy1, hy2⟩ := info_parts info_ints
  have hlt := hc.lt
  have kZ := Blk.new w #[.int .i64 0, .slice none 0 0] 26
  have hG := grown_of_below ((Below.refl w.heap.size w).alloc (Nat.le_refl _) (.cells #[.int .i64 0, .slice none 0 0] 26)) (some g)
  replace hc := cur_alloc hc (.cells #[.int .i64 0, .slice none 0 0] 26)
  go_enter Tryd.func49, Tryd.ntmps49
  go_wp2_with fail
  refine (c_l3Table g _ hc).mono ?_
  rintro e w1 ⟨N, o, c, xs, R, rfl, hO, ⟨_, _, hRl, hlen⟩, hc1, hg⟩
  have HLn : Hid (∀ j, j < R.length → (row R j).length ≤ 5) := hlen
  clear hlen
  simp only [World.size_alloc] at hO
  replace kZ := kZ.cur hg (show w.heap.size ≠ g by omega)
  replace hG := grown_trans hG hg
  clear hc hg
  have kT := Blk.new w1 #[.int .i64 N, .slice o R.length c] 26
  have hz := kZ.lt
  have av : Avoid w1.heap.size (.slice o R.length c) xs := fun y hy e => by
    have := hO.old (Nat.le_refl _) y hy _ e
    omega
  have hba := (Below.refl w1.heap.size w1).alloc (Nat.le_refl _) (.cells #[.int .i64 N, .slice o R.length c] 26)
  replace kZ := kZ.keep hba
  replace hO := hO.keep hba
  replace hc1 := hc1.keep hba
  replace hG := grown_trans hG (grown_of_below hba _)
  clear hba
  go_upto_region 2 with fail
  generalize w1.alloc (.cells #[.int .i64 N, .slice o R.length c] 26) = w2 at *
  obtain ⟨k6, hk6⟩ : ∃ k, w1.heap.size = k := ⟨_, rfl⟩
  rw [hk6] at kT hz av
  simp only [hk6]
  clear hk6
  go_wp2_with fail
  refine (c_l1Once g 14 (by omega) _ hc1).mono ?_
  rintro e w3 ⟨t, rfl, hc3, hg⟩
  replace kZ := kZ.cur hg (show w.heap.size ≠ g by omega)
  replace kT := kT.cur hg (show k6 ≠ g by omega)
  replace hO := hO.cur hg (show g < w.heap.size + 1 by omega)
  replace hG := grown_trans hG hg
  clear hc1 hg
  have hk6 := kT.lt
  cases t
  · skip
    go_wp2_with fail
    refine (c_l1Below g 2 (by omega) _ hc3).mono ?_
    rintro e w5 ⟨m, rfl, _, _, _, hc5, hg⟩
    replace kZ := kZ.cur hg (show w.heap.size ≠ g by omega)
    replace kT := kT.cur hg (show k6 ≠ g by omega)
    replace hO := hO.cur hg (show g < w.heap.size + 1 by omega)
    replace hG := grown_trans hG hg
    clear hc3 hg
    go_wp2_with fail
    refine (c_l1Once g 20 (by omega) _ hc5).mono ?_
    rintro e w6 ⟨t, rfl, hc6, hg⟩
    replace kZ := kZ.cur hg (show w.heap.size ≠ g by omega)
    replace kT := kT.cur hg (show k6 ≠ g by omega)
    replace hO := hO.cur hg (show g < w.heap.size + 1 by omega)
    replace hG := grown_trans hG hg
    clear hc5 hg
    cases t
    · skip
      have r0 := kT.cell 0 (.int .i64 N) rfl
      have r1 := kT.cell 1 (.slice o R.length c) rfl
      have z0 := kZ.cell 0 (.int .i64 0) rfl
      have z1 := kZ.cell 1 (.slice none 0 0) rfl
      have f0 := kZ.free 0
      have f1 := kZ.free 1
      have k2 : Blk _ w.heap.size #[.int .i64 N, .slice o R.length c] 26 := (kZ.set 0 (.int .i64 N)).set 1 (.slice o R.length c)
      have q0 := k2.cell 0 (.int .i64 N) rfl
      have q1 := k2.cell 1 (.slice o R.length c) rfl
      go_wp2
      refine bodyPost_ret (v := .tuple #[.agg #[.int .i64 N, .slice o R.length c], .int .i64 m]) (by simp only [results, Tryd.results49]; simp [go_sem, q0, q1]) rfl ?_
      exact ⟨N, m, o, c, xs, R, rfl, ((hO.far_set 0 (.int .i64 N) (Nat.lt_succ_self _)).far_set 1 (.slice o R.length c) (Nat.lt_succ_self _)).based (Nat.le_succ _), ⟨by omega, HLn.out⟩, (hc6.set (j := 0) (v := .int .i64 N) hlt).set (j := 1) (v := .slice o R.length c) hlt, grown_new (j := 1) (v := .slice o R.length c) (grown_new (j := 0) (v := .int .i64 N) hG (Nat.le_refl _)) (Nat.le_refl _)⟩
    · have hL := fun T => lit_ints w6 #[.int .i64 (-1), .int .i64 2] [-1, 2] (by simp) (fun k hk => by match k, hk with | 0, _ => rfl | 1, _ => rfl) T
      have hlt6 := hc6.lt
      go_wp2_with fail
      refine (c_l1PickInt g _ 2 [-1, 2] (by simp) (by simp) _ (cur_alloc hc6 _) (hL _) (fun a e => by injection e with e; subst e; simp; omega)).mono ?_
      rintro e w7 ⟨m2, rfl, _, hc7, hg⟩
      replace hg := grown_alloc hg
      replace kZ := kZ.cur hg (show w.heap.size ≠ g by omega)
      replace kT := kT.cur hg (show k6 ≠ g by omega)
      replace hO := hO.cur hg (show g < w.heap.size + 1 by omega)
      replace hG := grown_trans hG hg
      clear hc6 hg hL
      have r0 := kT.cell 0 (.int .i64 N) rfl
      have r1 := kT.cell 1 (.slice o R.length c) rfl
      have z0 := kZ.cell 0 (.int .i64 0) rfl
      have z1 := kZ.cell 1 (.slice none 0 0) rfl
      have f0 := kZ.free 0
      have f1 := kZ.free 1
      have k2 : Blk _ w.heap.size #[.int .i64 N, .slice o R.length c] 26 := (kZ.set 0 (.int .i64 N)).set 1 (.slice o R.length c)
      have q0 := k2.cell 0 (.int .i64 N) rfl
      have q1 := k2.cell 1 (.slice o R.length c) rfl
      go_wp2
      refine bodyPost_ret (v := .tuple #[.agg #[.int .i64 N, .slice o R.length c], .int .i64 m2]) (by simp only [results, Tryd.results49]; simp [go_sem, q0, q1]) rfl ?_
      exact ⟨N, m2, o, c, xs, R, rfl, ((hO.far_set 0 (.int .i64 N) (Nat.lt_succ_self _)).far_set 1 (.slice o R.length c) (Nat.lt_succ_self _)).based (Nat.le_succ _), ⟨by omega, HLn.out⟩, (hc7.set (j := 0) (v := .int .i64 N) hlt).set (j := 1) (v := .slice o R.length c) hlt, grown_new (j := 1) (v := .slice o R.length c) (grown_new (j := 0) (v := .int .i64 N) hG (Nat.le_refl _)) (Nat.le_refl _)⟩
  · go_wp2_with fail
    refine (c_l3Any g _ hc3).mono ?_
    rintro e w4 ⟨n, o2, c2, xs2, R2, rfl, hO2, ⟨hRl2, hlen2⟩, hc4, hg⟩
    have HLn2 : Hid (∀ j, j < R2.length → (row R2 j).length ≤ 5) := hlen2
    clear hlen2
    replace kZ := kZ.cur hg (show w.heap.size ≠ g by omega)
    replace kT := kT.cur hg (show k6 ≠ g by omega)
    replace hG := grown_trans hG hg
    have av2 : Avoid k6 (.slice o2 R2.length c2) xs2 := fun y hy e => by
      rcases hy with rfl | hy
      · have := (World.ownsRow.lt hO2.outer _ e).1; omega
      · have := hO2.lowS (Nat.le_refl _) y hy _ e; omega
    replace hO2 := hO2.based (show w.heap.size + 1 ≤ w3.heap.size by omega)
    clear hc3 hg hO HLn hRl av
    have n0 := kT.cell 0 (.int .i64 N) rfl
    have n1 := kT.cell 1 (.slice o R.length c) rfl
    have g0 := kT.free 0
    have g1 := kT.free 1
    have kT2 : Blk _ k6 #[.int .i64 n, .slice o2 R2.length c2] 26 := (kT.set 0 (.int .i64 n)).set 1 (.slice o2 R2.length c2)
    have kZ2 := (kZ.far ⟨k6, 0, none⟩ (.int .i64 n) (show w.heap.size ≠ k6 by omega)).far ⟨k6, 1, none⟩ (.slice o2 R2.length c2) (show w.heap.size ≠ k6 by omega)
    have hO3 := ownRows_setAvoid (ownRows_setAvoid hO2 av2 0 (.int .i64 n)) av2 1 (.slice o2 R2.length c2)
    have hc5 := (hc4.set (j := 0) (v := .int .i64 n) (show g < k6 by omega)).set (j := 1) (v := .slice o2 R2.length c2) (show g < k6 by omega)
    have hG2 := grown_new (j := 1) (v := .slice o2 R2.length c2) (grown_new (j := 0) (v := .int .i64 n) hG (show w.heap.size ≤ k6 by omega)) (show w.heap.size ≤ k6 by omega)
    clear kZ hO2 hc4 hG
    have kT1 := kT
    clear kT
    have kT := kT2
    have kZ := kZ2
    have hO := hO3
    have hc3 := hc5
    have hG := hG2
    clear kT2 kZ2 hO3 hc5 hG2
    go_wp2_with fail
    skip
    refine (c_l1Below g 2 (by omega) _ hc3).mono ?_
    rintro e w5 ⟨m, rfl, _, _, _, hc5, hg⟩
    replace kZ := kZ.cur hg (show w.heap.size ≠ g by omega)
    replace kT := kT.cur hg (show k6 ≠ g by omega)
    replace hO := hO.cur hg (show g < w.heap.size + 1 by omega)
    replace hG := grown_trans hG hg
    clear hc3 hg
    go_wp2_with fail
    refine (c_l1Once g 20 (by omega) _ hc5).mono ?_
    rintro e w6 ⟨t, rfl, hc6, hg⟩
    replace kZ := kZ.cur hg (show w.heap.size ≠ g by omega)
    replace kT := kT.cur hg (show k6 ≠ g by omega)
    replace hO := hO.cur hg (show g < w.heap.size + 1 by omega)
    replace hG := grown_trans hG hg
    clear hc5 hg
    cases t
    · skip
      have r0 := kT.cell 0 (.int .i64 n) rfl
      have r1 := kT.cell 1 (.slice o2 R2.length c2) rfl
      have z0 := kZ.cell 0 (.int .i64 0) rfl
      have z1 := kZ.cell 1 (.slice none 0 0) rfl
      have f0 := kZ.free 0
      have f1 := kZ.free 1
      have k2 : Blk _ w.heap.size #[.int .i64 n, .slice o2 R2.length c2] 26 := (kZ.set 0 (.int .i64 n)).set 1 (.slice o2 R2.length c2)
      have q0 := k2.cell 0 (.int .i64 n) rfl
      have q1 := k2.cell 1 (.slice o2 R2.length c2) rfl
      go_wp2
      refine bodyPost_ret (v := .tuple #[.agg #[.int .i64 n, .slice o2 R2.length c2], .int .i64 m]) (by simp only [results, Tryd.results49]; simp [go_sem, q0, q1]) rfl ?_
      exact ⟨n, m, o2, c2, xs2, R2, rfl, ((hO.far_set 0 (.int .i64 n) (Nat.lt_succ_self _)).far_set 1 (.slice o2 R2.length c2) (Nat.lt_succ_self _)).based (Nat.le_succ _), ⟨by omega, HLn2.out⟩, (hc6.set (j := 0) (v := .int .i64 n) hlt).set (j := 1) (v := .slice o2 R2.length c2) hlt, grown_new (j := 1) (v := .slice o2 R2.length c2) (grown_new (j := 0) (v := .int .i64 n) hG (Nat.le_refl _)) (Nat.le_refl _)⟩
    · have hL := fun T => lit_ints w6 #[.int .i64 (-1), .int .i64 2] [-1, 2] (by simp) (fun k hk => by match k, hk with | 0, _ => rfl | 1, _ => rfl) T
      have hlt6 := hc6.lt
      go_wp2_with fail
      refine (c_l1PickInt g _ 2 [-1, 2] (by simp) (by simp) _ (cur_alloc hc6 _) (hL _) (fun a e => by injection e with e; subst e; simp; omega)).mono ?_
      rintro e w7 ⟨m2, rfl, _, hc7, hg⟩
      replace hg := grown_alloc hg
      replace kZ := kZ.cur hg (show w.heap.size ≠ g by omega)
      replace kT := kT.cur hg (show k6 ≠ g by omega)
      replace hO := hO.cur hg (show g < w.heap.size + 1 by omega)
      replace hG := grown_trans hG hg
      clear hc6 hg hL
      have r0 := kT.cell 0 (.int .i64 n) rfl
      have r1 := kT.cell 1 (.slice o2 R2.length c2) rfl
      have z0 := kZ.cell 0 (.int .i64 0) rfl
      have z1 := kZ.cell 1 (.slice none 0 0) rfl
      have f0 := kZ.free 0
      have f1 := kZ.free 1
      have k2 : Blk _ w.heap.size #[.int .i64 n, .slice o2 R2.length c2] 26 := (kZ.set 0 (.int .i64 n)).set 1 (.slice o2 R2.length c2)
      have q0 := k2.cell 0 (.int .i64 n) rfl
      have q1 := k2.cell 1 (.slice o2 R2.length c2) rfl
      go_wp2
      refine bodyPost_ret (v := .tuple #[.agg #[.int .i64 n, .slice o2 R2.length c2], .int .i64 m2]) (by simp only [results, Tryd.results49]; simp [go_sem, q0, q1]) rfl ?_
      exact ⟨n, m2, o2, c2, xs2, R2, rfl, ((hO.far_set 0 (.int .i64 n) (Nat.lt_succ_self _)).far_set 1 (.slice o2 R2.length c2) (Nat.lt_succ_self _)).based (Nat.le_succ _), ⟨by omega, HLn2.out⟩, (hc7.set (j := 0) (v := .int .i64 n) hlt).set (j := 1) (v := .slice o2 R2.length c2) hlt, grown_new (j := 1) (v := .slice o2 R2.length c2) (grown_new (j := 0) (v := .int .i64 n) hG (Nat.le_refl _)) (Nat.le_refl _)⟩
end Go.Proofs.YtcenndlbhgfdfaaDoor
namespace Go.Proofs.YtcenndlbhgfdfaaDoor
open Go.RowKit
set_option linter.unusedVariables false
set_option maxRecDepth 100000

def DrawsTab (f : FuncId) (oa : Option Addr) (mc cap : Nat) (w : World) : Prop :=
  Calls Tryd.prog f #[.slice oa mc cap] w fun e w' => ∃ (n m : Int) (o : Option Addr) (c : Nat) (xs : List Value) (R : List (List Int)), e = .returned (.tuple #[.agg #[.int .i64 n, .slice o R.length c], .int .i64 m]) ∧ OwnRows w' w.heap.size (.slice o R.length c) xs R ∧ (R.length ≤ 13 ∧ ∀ j, j < R.length → (row R j).length ≤ 5) ∧ Below w.heap.size w w'
def DrawsTabX (f : FuncId) (oa : Option Addr) (mc cap : Nat) (w : World) : Prop :=
  Calls Tryd.prog f #[.slice oa mc cap] w fun e w' => ∃ (n m : Int) (o : Option Addr) (c : Nat) (xs : List Value) (R : List (List Int)) (x : Int), e = .returned (.tuple #[.agg #[.int .i64 n, .slice o R.length c], .int .i64 m, .int .i64 x]) ∧ OwnRows w' w.heap.size (.slice o R.length c) xs R ∧ (R.length ≤ 13 ∧ ∀ j, j < R.length → (row R j).length ≤ 5) ∧ Below w.heap.size w w'
end Go.Proofs.YtcenndlbhgfdfaaDoor
