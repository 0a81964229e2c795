/- Contracts and lemmas for FnPartitions, part 1 of 5. -/
import Derived.WalkKit
import Derived.WalkSpells
import Derived.BigQuiet
import Derived.Test.YtcenndlbhgfdfaaDoorProg
namespace Go.Proofs.YtcenndlbhgfdfaaDoor
open Go.RowKit

/-- A cell that is there stays as it is in every world that extends this one. -/
theorem cell_keep {w w' : World} {a : Addr} {v : Value} (h : w.cell? a = some v) (hb : Below w.heap.size w w') : w'.cell? a = some v :=
  (hb.cell (World.block_lt_of_cell? w a h)).trans h
theorem cell_after {w w' : World} {B : Nat} {a : Addr} {v : Value} (h : w.cell? a = some v) (hB : B = w.heap.size) (hb : Below B w w') : w'.cell? a = some v := by
  subst hB; exact cell_keep h hb
/-- What a new block holds, behind a call made over it. -/
theorem box_cell {w w' : World} {c : Array Value} {T : TypeId} {n : Nat} (hb : Below n (w.alloc (.cells c T)) w') (hn : n = w.heap.size + 1) (j : Nat) (v : Value) (hv : c[j]? = some v) : w'.cell? ⟨w.heap.size, j, none⟩ = some v := by
  have h0 : (w.alloc (.cells c T)).cell? ⟨w.heap.size, j, none⟩ = some v := by
    simp only [World.cell?, heap_alloc_new]; exact hv
  exact cell_after h0 (by rw [hn]; simp) hb
/-- The worlds that hold all that 'w' held, as it was. -/
def After (w : World) : Type := { w' : World // Below w.heap.size w w' }
def After.w {w : World} (x : After w) : World := x.1
theorem After.bel {w : World} (x : After w) : Below w.heap.size w x.w := x.2
theorem after_lt {w : World} (x : After w) {b : Nat} (h : b < w.heap.size) : b < x.w.heap.size := Nat.lt_of_lt_of_le h x.bel.size

theorem bel_to {w a b : World} (h : Below w.heap.size w a) (k : Below a.heap.size a b) : Below w.heap.size w b := h.trans (k.mono h.size)

/-- The contract of a function that answers 'v' and leaves what was there as it was. -/
def Ans (P : Program) (f : FuncId) (args : Array Value) (w : World) (v : Value) : Prop :=
  Calls P f args w fun e w' => e = .returned v ∧ Below w.heap.size w w'

theorem Ans.after {P : Program} {f : FuncId} {args : Array Value} {w : World} {x : After w} {v : Value} (h : Ans P f args x.w v) :
    Calls P f args x.w fun e w'' => e = .returned v ∧ ∃ y : After w, w'' = y.w :=
  Calls.mono h fun _ _ ⟨he, hb⟩ => ⟨he, ⟨_, bel_to x.bel hb⟩, rfl⟩

theorem Ans.eqb {P : Program} {f : FuncId} {args : Array Value} {w : World} {b b' : Bool} (h : Ans P f args w (.bool b)) (e : b = b') : Ans P f args w (.bool b') := e ▸ h

/-- A region that draws its order, whose operations read and whose calls answer: one walk in the text's order. -/
theorem wp_region_after {P : Program} {id : Nat} {Q : Exit → Act → World → Prop} {a : Act} {w : World} {l : List Oper} (hm : P.follows .mixedOrders = true) (hB : Region.lexB .any l.toArray = true)
    (h : wpQuiet P l.toArray (fun w' => ∃ x : After w, w' = x.w) (fun a' => ∀ w', (∃ x : After w, w' = x.w) → Q .normal a' w') l a) : (Code.region id l.toArray true).wp P Q a w :=
  wp_region_quiet (C := fun w' => ∃ x : After w, w' = x.w) hm hB ⟨⟨_, (Below.refl _ _).drew⟩, rfl⟩ (by simpa using h)

instance (w : World) : Nonempty (After w) := ⟨⟨w, Below.refl _ _⟩⟩

/-- An int list's, a list of dependencies' cells, by number. -/
def nth (L : List Int) (k : Nat) : Int := L.getD k 0
def nl (L : List (Int × Int)) (k : Nat) : Int := (L.getD k (0, 0)).1
def nr (L : List (Int × Int)) (k : Nat) : Int := (L.getD k (0, 0)).2

def Room : Nat := 1073741824
/-- An int. -/
def I64 (n : Int) : Prop := -9223372036854775808 ≤ n ∧ n ≤ 9223372036854775807

structure IntsAt (w : World) (oa : Option Addr) (L : List Int) : Prop where
  len : L.length ≤ Room
  at_ : 0 < L.length → ∃ b off, oa = some ⟨b, off, none⟩ ∧ b < w.heap.size ∧ ∀ k, k < L.length → w.cell? ⟨b, off + k, none⟩ = some (.int .i64 (nth L k))
structure DepsAt (w : World) (oa : Option Addr) (L : List (Int × Int)) : Prop where
  len : L.length ≤ Room
  at_ : 0 < L.length → ∃ b off, oa = some ⟨b, off, none⟩ ∧ b < w.heap.size ∧
    ∀ k, k < L.length → w.cell? ⟨b, off + k * 2, none⟩ = some (.int .i64 (nl L k)) ∧ w.cell? ⟨b, off + k * 2 + 1, none⟩ = some (.int .i64 (nr L k))
theorem IntsAt.keep {w w' : World} {oa : Option Addr} {L : List Int} (h : IntsAt w oa L) (hb : Below w.heap.size w w') : IntsAt w' oa L :=
  ⟨h.len, fun h0 => by
    obtain ⟨b, off, e, hlt, hc⟩ := h.at_ h0
    exact ⟨b, off, e, Nat.lt_of_lt_of_le hlt hb.size, fun k hk => by rw [hb.cell (p := ⟨b, off + k, none⟩) hlt]; exact hc k hk⟩⟩
theorem DepsAt.keep {w w' : World} {oa : Option Addr} {L : List (Int × Int)} (h : DepsAt w oa L) (hb : Below w.heap.size w w') : DepsAt w' oa L :=
  ⟨h.len, fun h0 => by
    obtain ⟨b, off, e, hlt, hc⟩ := h.at_ h0
    exact ⟨b, off, e, Nat.lt_of_lt_of_le hlt hb.size, fun k hk => by
      rw [hb.cell (p := ⟨b, off + k * 2, none⟩) hlt, hb.cell (p := ⟨b, off + k * 2 + 1, none⟩) hlt]; exact hc k hk⟩⟩
theorem lt_step {p : Nat → Prop} {k : Nat} (h : ∀ j, j < k → p j) (hk : p k) : ∀ j, j < k + 1 → p j := fun j hj => by
  rcases Nat.lt_or_ge j k with h' | h'
  · exact h j h'
  · have : j = k := by omega
    subst this; exact hk
/-- A block that is known whole. -/
def Blk (w : World) (g : Nat) (c : Array Value) (T : TypeId) : Prop := w.heap[g]? = some (.cells c T (0, 0))
theorem Blk.lt {w : World} {g : Nat} {c : Array Value} {T : TypeId} (h : Blk w g c T) : g < w.heap.size := (Array.getElem?_eq_some_iff.1 h).1
theorem Blk.cell {w : World} {g : Nat} {c : Array Value} {T : TypeId} (h : Blk w g c T) (j : Nat) (v : Value) (hv : c[j]? = some v) : w.cell? ⟨g, j, none⟩ = some v := by
  unfold Blk at h; simp only [World.cell?, h]; exact hv
theorem Blk.free {w : World} {g : Nat} {c : Array Value} {T : TypeId} (h : Blk w g c T) (j : Nat) : w.frozen? ⟨g, j, none⟩ = false := by
  unfold Blk at h; simp only [World.frozen?, h]; simp
theorem Blk.keep {w w' : World} {g : Nat} {c : Array Value} {T : TypeId} (h : Blk w g c T) (hb : Below w.heap.size w w') : Blk w' g c T := (hb.block g h.lt).trans h
theorem Blk.new (w : World) (c : Array Value) (T : TypeId) : Blk (w.alloc (.cells c T)) w.heap.size c T := heap_alloc_new w _
theorem Blk.alloc {w : World} {g : Nat} {c : Array Value} {T : TypeId} (h : Blk w g c T) (o : Obj) : Blk (w.alloc o) g c T := (Below.heap_alloc w o g h.lt).trans h
theorem Blk.drew {w : World} {g : Nat} {c : Array Value} {T : TypeId} (h : Blk w g c T) : Blk w.drew g c T := h
theorem Blk.set {w : World} {g : Nat} {c : Array Value} {T : TypeId} (h : Blk w g c T) (j : Nat) (v : Value) : Blk (w.setCell ⟨g, j, none⟩ v) g (c.setIfInBounds j v) T := heap_setCell_same w g j c T v h
theorem Blk.far {w : World} {g : Nat} {c : Array Value} {T : TypeId} (h : Blk w g c T) (a : Addr) (v : Value) (hne : g ≠ a.block) : Blk (w.setCell a v) g c T := (Below.heap_setCell w a v g hne).trans h
theorem ret_bool {a b : Bool} (h : a = b) : Ending.returned (.bool a) = .returned (.bool b) := by rw [h]
theorem ret_int {a b : Int} (h : a = b) : Ending.returned (.int .i64 a) = .returned (.int .i64 b) := by rw [h]
end Go.Proofs.YtcenndlbhgfdfaaDoor
namespace Go.Proofs.YtcenndlbhgfdfaaDoor
open Go.RowKit

/-- x &^ y == 0 -/
def ins (x y : Int) : Bool := bits BinOp.andNot .i64 x y == 0
/-- x & y == x -/
def insA (x y : Int) : Bool := bits BinOp.and .i64 x y == x
/-- x >> c & 1 == 1 -/
def hasc (x c : Int) : Bool := bits BinOp.and .i64 (x / 2 ^ c.toNat) 1 == 1
/-- x | y, x & y, x &^ y, 1 << c -/
def uni (x y : Int) : Int := bits BinOp.or .i64 x y
def cap (x y : Int) : Int := bits BinOp.and .i64 x y
def dif (x y : Int) : Int := bits BinOp.andNot .i64 x y
def one (c : Int) : Int := wrap64 (2 ^ c.toNat)
/-- a valid set, a valid column -/
def St (x : Int) : Prop := 0 ≤ x ∧ x < 32
def Co (c : Int) : Prop := 0 ≤ c ∧ c < 5
instance (x : Int) : Decidable (St x) := by unfold St; infer_instance
instance (x : Int) : Decidable (Co x) := by unfold Co; infer_instance

theorem st_nat {x : Int} (h : St x) : ∃ n : Nat, n < 32 ∧ x = n := ⟨x.toNat, by unfold St at h; omega, by unfold St at h; omega⟩
theorem co_nat {x : Int} (h : Co x) : ∃ n : Nat, n < 5 ∧ x = n := ⟨x.toNat, by unfold Co at h; omega, by unfold Co at h; omega⟩

theorem hasc_nat : ∀ n < 32, ∀ c < 5, hasc (n : Nat) (c : Nat) = Nat.testBit n c := by decide +kernel
theorem one_nat : ∀ c < 5, one (c : Nat) = (2 ^ c : Nat) := by decide +kernel
theorem uni_nat : ∀ n < 32, ∀ m < 32, uni (n : Nat) (m : Nat) = (n ||| m : Nat) := by decide +kernel
theorem cap_nat : ∀ n < 32, ∀ m < 32, cap (n : Nat) (m : Nat) = (n &&& m : Nat) := by decide +kernel
theorem dif_nat : ∀ n < 32, ∀ m < 32, dif (n : Nat) (m : Nat) = (n &&& (31 ^^^ m) : Nat) := by decide +kernel
theorem ins_nat : ∀ n < 32, ∀ m < 32, ins (n : Nat) (m : Nat) = (n &&& m == n) := by decide +kernel

theorem uni_st {x y : Int} (hx : St x) (hy : St y) : St (uni x y) := by
  obtain ⟨n, hn, rfl⟩ := st_nat hx; obtain ⟨m, hm, rfl⟩ := st_nat hy
  have h : ∀ n < 32, ∀ m < 32, (n ||| m) < 32 := by decide +kernel
  rw [uni_nat n hn m hm]; have := h n hn m hm; unfold St; omega
theorem cap_st {x y : Int} (hx : St x) (hy : St y) : St (cap x y) := by
  obtain ⟨n, hn, rfl⟩ := st_nat hx; obtain ⟨m, hm, rfl⟩ := st_nat hy
  have h : ∀ n < 32, ∀ m < 32, (n &&& m) < 32 := by decide +kernel
  rw [cap_nat n hn m hm]; have := h n hn m hm; unfold St; omega
theorem dif_st {x y : Int} (hx : St x) (hy : St y) : St (dif x y) := by
  obtain ⟨n, hn, rfl⟩ := st_nat hx; obtain ⟨m, hm, rfl⟩ := st_nat hy
  have h : ∀ n < 32, ∀ m < 32, (n &&& (31 ^^^ m)) < 32 := by decide +kernel
  rw [dif_nat n hn m hm]; have := h n hn m hm; unfold St; omega
theorem one_st {c : Int} (hc : Co c) : St (one c) := by
  obtain ⟨n, hn, rfl⟩ := co_nat hc
  have h : ∀ c < 5, 2 ^ c < 32 := by decide
  rw [one_nat n hn]; have := h n hn; unfold St; exact ⟨Int.natCast_nonneg _, by exact_mod_cast this⟩

theorem hasc_uni {x y c : Int} (hx : St x) (hy : St y) (hc : Co c) : hasc (uni x y) c = (hasc x c || hasc y c) := by
  obtain ⟨n, hn, rfl⟩ := st_nat hx; obtain ⟨m, hm, rfl⟩ := st_nat hy; obtain ⟨k, hk, rfl⟩ := co_nat hc
  have h : ∀ n < 32, ∀ m < 32, (n ||| m) < 32 := by decide +kernel
  rw [uni_nat n hn m hm, hasc_nat _ (h n hn m hm) k hk, hasc_nat n hn k hk, hasc_nat m hm k hk, Nat.testBit_or]
theorem hasc_cap {x y c : Int} (hx : St x) (hy : St y) (hc : Co c) : hasc (cap x y) c = (hasc x c && hasc y c) := by
  obtain ⟨n, hn, rfl⟩ := st_nat hx; obtain ⟨m, hm, rfl⟩ := st_nat hy; obtain ⟨k, hk, rfl⟩ := co_nat hc
  have h : ∀ n < 32, ∀ m < 32, (n &&& m) < 32 := by decide +kernel
  rw [cap_nat n hn m hm, hasc_nat _ (h n hn m hm) k hk, hasc_nat n hn k hk, hasc_nat m hm k hk, Nat.testBit_and]
theorem hasc_dif {x y c : Int} (hx : St x) (hy : St y) (hc : Co c) : hasc (dif x y) c = (hasc x c && !hasc y c) := by
  obtain ⟨n, hn, rfl⟩ := st_nat hx; obtain ⟨m, hm, rfl⟩ := st_nat hy; obtain ⟨k, hk, rfl⟩ := co_nat hc
  have h : ∀ n < 32, ∀ m < 32, ∀ k < 5, hasc (dif (n : Nat) (m : Nat)) (k : Nat) = (hasc (n : Nat) (k : Nat) && !hasc (m : Nat) (k : Nat)) := by decide +kernel
  exact h n hn m hm k hk
theorem hasc_one {c d : Int} (hc : Co c) (hd : Co d) : hasc (one c) d = (c == d) := by
  obtain ⟨n, hn, rfl⟩ := co_nat hc; obtain ⟨k, hk, rfl⟩ := co_nat hd
  have h : ∀ n < 5, ∀ k < 5, hasc (one (n : Nat)) (k : Nat) = (((n : Nat) : Int) == ((k : Nat) : Int)) := by decide +kernel
  exact h n hn k hk
theorem ins_iff {x y : Int} (hx : St x) (hy : St y) : ins x y = true ↔ ∀ c, Co c → hasc x c = true → hasc y c = true := by
  obtain ⟨n, hn, rfl⟩ := st_nat hx; obtain ⟨m, hm, rfl⟩ := st_nat hy
  have h : ∀ n < 32, ∀ m < 32, ins (n : Nat) (m : Nat) = true ↔ ∀ c < 5, hasc (n : Nat) (c : Nat) = true → hasc (m : Nat) (c : Nat) = true := by decide +kernel
  rw [h n hn m hm]
  exact ⟨fun h c hc => by obtain ⟨k, hk, rfl⟩ := co_nat hc; exact h k hk, fun h c hc => h c (by unfold Co; omega)⟩
theorem set_ext {x y : Int} (hx : St x) (hy : St y) (h : ∀ c, Co c → hasc x c = hasc y c) : x = y := by
  obtain ⟨n, hn, rfl⟩ := st_nat hx; obtain ⟨m, hm, rfl⟩ := st_nat hy
  have h' : ∀ n < 32, ∀ m < 32, (∀ c < 5, hasc (n : Nat) (c : Nat) = hasc (m : Nat) (c : Nat)) → n = m := by decide +kernel
  rw [h' n hn m hm (fun c hc => h c (by unfold Co; omega))]
theorem insA_eq {x y : Int} (hx : St x) (hy : St y) : insA x y = ins x y := by
  obtain ⟨n, hn, rfl⟩ := st_nat hx; obtain ⟨m, hm, rfl⟩ := st_nat hy
  have h : ∀ n < 32, ∀ m < 32, insA (n : Nat) (m : Nat) = ins (n : Nat) (m : Nat) := by decide +kernel
  exact h n hn m hm
theorem ins_refl {x : Int} (hx : St x) : ins x x = true := (ins_iff hx hx).2 fun _ _ h => h
theorem ins_trans {x y z : Int} (hx : St x) (hy : St y) (hz : St z) (h : ins x y = true) (h' : ins y z = true) : ins x z = true :=
  (ins_iff hx hz).2 fun c hc h1 => (ins_iff hy hz).1 h' c hc ((ins_iff hx hy).1 h c hc h1)
theorem ins_antisymm {x y : Int} (hx : St x) (hy : St y) (h : ins x y = true) (h' : ins y x = true) : x = y :=
  set_ext hx hy fun c hc => by
    have a := (ins_iff hx hy).1 h c hc
    have b := (ins_iff hy hx).1 h' c hc
    cases e : hasc x c <;> cases e' : hasc y c <;> simp_all
/-- x>>c&1 == 0 is the other answer. -/
def hasn (x c : Int) : Bool := bits BinOp.and .i64 (x / 2 ^ c.toNat) 1 == 0
theorem hasn_eq {x c : Int} (hx : St x) (hc : Co c) : hasn x c = !hasc x c := by
  obtain ⟨n, hn, rfl⟩ := st_nat hx; obtain ⟨k, hk, rfl⟩ := co_nat hc
  have h : ∀ n < 32, ∀ k < 5, hasn (n : Nat) (k : Nat) = !hasc (n : Nat) (k : Nat) := by decide +kernel
  exact h n hn k hk
theorem uni_lt {x c : Int} (hx : St x) (hc : Co c) (h : hasc x c = false) : x < uni x (one c) := by
  obtain ⟨n, hn, rfl⟩ := st_nat hx; obtain ⟨k, hk, rfl⟩ := co_nat hc
  have h' : ∀ n < 32, ∀ k < 5, hasc (n : Nat) (k : Nat) = false → ((n : Nat) : Int) < uni (n : Nat) (one (k : Nat)) := by decide +kernel
  exact h' n hn k hk h
end Go.Proofs.YtcenndlbhgfdfaaDoor
namespace Go.Proofs.YtcenndlbhgfdfaaDoor
open Go.RowKit
set_option linter.unusedVariables false
set_option maxRecDepth 100000

def inB (x lo hi : Int) : Bool := decide (lo ≤ x) && decide (x ≤ hi)
def isAttr (n x : Int) : Bool := decide (0 ≤ n) && decide (n ≤ 5) && decide (0 ≤ x) && decide (x < 2 ^ n.toNat)
def stB (x : Int) : Bool := decide (St x)
def allM (n : Int) : Int := 2 ^ n.toNat - 1

theorem pow_wrap {n : Int} (h0 : 0 ≤ n) (h5 : n ≤ 5) : wrap64 (2 ^ n.toNat) = 2 ^ n.toNat ∧ (2 : Int) ^ n.toNat ≤ 32 ∧ 1 ≤ (2 : Int) ^ n.toNat := by
  obtain ⟨m, rfl⟩ := Int.eq_ofNat_of_zero_le h0
  have h : ∀ m < 6, wrap64 (2 ^ ((m : Nat) : Int).toNat) = 2 ^ ((m : Nat) : Int).toNat ∧ (2 : Int) ^ ((m : Nat) : Int).toNat ≤ 32 ∧ 1 ≤ (2 : Int) ^ ((m : Nat) : Int).toNat := by decide +kernel
  exact h m (by omega)
theorem isAttr_5 (x : Int) : isAttr 5 x = stB x := by
  unfold isAttr stB St
  have : (2 : Int) ^ (5 : Int).toNat = 32 := by decide
  rw [this]
  by_cases h : 0 ≤ x <;> by_cases h' : x < 32 <;> simp [h, h']

theorem c_inside (x y : Int) (w : World) : Ans Tryd.prog 52 #[.int .i64 x, .int .i64 y] w (.bool (ins x y)) := by
  unfold Ans
  go_enter Tryd.func52, Tryd.ntmps52
  go_wp2
  go_ret
  exact ⟨rfl, Below.refl _ _⟩
theorem c_has (x c : Int) (hc : 0 ≤ c ∧ c < 64) (w : World) : Ans Tryd.prog 62 #[.int .i64 x, .int .i64 c] w (.bool (hasc x c)) := by
  unfold Ans
  go_enter Tryd.func62, Tryd.ntmps62
  go_wp2
  go_ret
  exact ⟨rfl, Below.refl _ _⟩
theorem c_l1In (x lo hi : Int) (w : World) : Ans Tryd.prog 40 #[.int .i64 x, .int .i64 lo, .int .i64 hi] w (.bool (inB x lo hi)) := by
  unfold Ans
  go_enter Tryd.func40, Tryd.ntmps40
  go_wp2
  all_goals go_ret
  all_goals exact ⟨ret_bool (by simp [inB]; omega), Below.refl _ _⟩
theorem c_l2All (n : Int) (hn : 0 ≤ n ∧ n ≤ 5) (w : World) : Ans Tryd.prog 55 #[.int .i64 n] w (.int .i64 (allM n)) := by
  unfold Ans
  have hp := pow_wrap hn.1 hn.2
  have hp1 := hp.1
  have hp2 := hp.2.1
  have hp3 := hp.2.2
  clear hp
  go_enter Tryd.func55, Tryd.ntmps55
  go_wp2
  go_ret
  exact ⟨rfl, Below.refl _ _⟩
theorem c_isAttributes (n x : Int) (w : World) : Ans Tryd.prog 28 #[.int .i64 n, .int .i64 x] w (.bool (isAttr n x)) := by
  unfold Ans
  go_enter Tryd.func28, Tryd.ntmps28
  go_wp2
  all_goals go_ret
  all_goals refine ⟨ret_bool ?_, Below.refl _ _⟩
  · have h0 : 0 ≤ n := by assumption
    have h5 : n ≤ 5 := by assumption
    have hx : 0 ≤ x := by assumption
    rw [(pow_wrap h0 h5).1]
    simp [isAttr, h0, h5, hx]
  all_goals (simp [isAttr]; omega)
theorem c_specIsAttributes (n x : Int) (w : World) : Ans Tryd.prog 34 #[.int .i64 n, .int .i64 x] w (.bool (isAttr n x)) := by
  unfold Ans
  have hb := Below.refl w.heap.size w
  by_cases h : 0 ≤ n ∧ n ≤ 5
  · have hin : inB n 0 5 = true := by simp [inB, h]
    have hp := (pow_wrap h.1 h.2).2
    go_enter Tryd.func34, Tryd.ntmps34
    go_wp2_with (first | (go_at_call 40; refine Calls.mono (c_l1In _ _ _ _) ?_; rintro e w1 ⟨rfl, hbn⟩; replace hb := bel_to (w := w) (by first | exact hb | exact hb.alloc hb.size _ | exact (hb.alloc hb.size _).alloc (Nat.le_trans hb.size (by simp)) _ | exact hb.setCell (by simp [hb.size]) _) hbn; clear hbn) | (go_at_call 55; refine Calls.mono (c_l2All _ h _) ?_; rintro e w1 ⟨rfl, hbn⟩; replace hb := bel_to (w := w) (by first | exact hb | exact hb.alloc hb.size _ | exact (hb.alloc hb.size _).alloc (Nat.le_trans hb.size (by simp)) _ | exact hb.setCell (by simp [hb.size]) _) hbn; clear hbn))
    go_ret
    have e : decide (x ≤ 2 ^ n.toNat - 1) = decide (x < 2 ^ n.toNat) := by generalize (2 : Int) ^ n.toNat = p; rw [decide_eq_decide]; omega
    exact ⟨ret_bool (by unfold inB isAttr allM; rw [e, decide_eq_true h.1, decide_eq_true h.2]; simp), hb⟩
  · have hin : inB n 0 5 = false := by simp [inB]; omega
    go_enter Tryd.func34, Tryd.ntmps34
    go_wp2_with (first | (go_at_call 40; refine Calls.mono (c_l1In _ _ _ _) ?_; rintro e w1 ⟨rfl, hbn⟩; replace hb := bel_to (w := w) (by first | exact hb | exact hb.alloc hb.size _ | exact (hb.alloc hb.size _).alloc (Nat.le_trans hb.size (by simp)) _ | exact hb.setCell (by simp [hb.size]) _) hbn; clear hbn))
    go_ret
    exact ⟨ret_bool (by simp [isAttr]; omega), hb⟩
end Go.Proofs.YtcenndlbhgfdfaaDoor
namespace Go.Proofs.YtcenndlbhgfdfaaDoor
open Go.RowKit
set_option linter.unusedVariables false
set_option maxRecDepth 100000

def encI (x : Int) : Value := .int .i64 x
/-- 'v' is a slice of ints of the call's own (made from block 'base' on) that reads as L. -/
def OwnI (w : World) (base : Nat) (v : Value) (L : List Int) : Prop := w.ownsRow base 3 1 v L.length (L.map encI)

theorem below_grown {w w' : World} {row : Option Nat} {B : Nat} (hg : w.grownBy w' row) (hB : B ≤ w.heap.size) (hr : ∀ k, row = some k → B ≤ k) : Below B w w' :=
  (Below.refl B w).grown hg hB hr

theorem owns_keep {w w' : World} {base : Nat} {e : TypeId} {size : Nat} {v : Value} {n : Nat} {xs : List Value} (h : w.ownsRow base e size v n xs) (hb : Below w.heap.size w w') : w'.ownsRow base e size v n xs := by
  refine ⟨h.1, ?_⟩
  rcases h.2 with hn | ⟨g, cap, cur, rfl, hbg, hgg, rest⟩
  · exact .inl hn
  · exact .inr ⟨g, cap, cur, rfl, hbg, by rw [hb.block g (Array.getElem?_eq_some_iff.1 hgg).1]; exact hgg, rest⟩
theorem owns_base {w : World} {base base' : Nat} {e : TypeId} {size : Nat} {v : Value} {n : Nat} {xs : List Value} (h : w.ownsRow base e size v n xs) (hb : base' ≤ base) : w.ownsRow base' e size v n xs := by
  refine ⟨h.1, ?_⟩
  rcases h.2 with hn | ⟨g, cap, cur, rfl, hbg, rest⟩
  · exact .inl hn
  · exact .inr ⟨g, cap, cur, rfl, by omega, rest⟩
/-- The shape of a slice that is owned, and its cells. -/
theorem owns_cells {w : World} {base : Nat} {e : TypeId} {size : Nat} {v : Value} {n : Nat} {xs : List Value} (h : w.ownsRow base e size v n xs) :
    ∃ oa cap, v = .slice oa n cap ∧ (0 < n → ∃ g, oa = some ⟨g, 0, none⟩ ∧ base ≤ g ∧ g < w.heap.size ∧ n ≤ cap ∧ (∀ j, j < n * size → w.cell? ⟨g, j, none⟩ = xs[j]?) ∧ (∀ j, w.frozen? ⟨g, j, none⟩ = false)) := by
  have h' := h
  rcases h.2 with ⟨rfl, rfl⟩ | ⟨g, cap, cur, rfl, hbg, hgg, hc, _⟩
  · exact ⟨none, 0, rfl, fun h => absurd h (by omega)⟩
  · exact ⟨_, cap, rfl, fun _ => ⟨g, rfl, hbg, (Array.getElem?_eq_some_iff.1 hgg).1, hc, fun j hj => h'.cellAt j hj, fun j => h'.frozenAt j⟩⟩

theorem OwnI.keep {w w' : World} {base : Nat} {v : Value} {L : List Int} (h : OwnI w base v L) (hb : Below w.heap.size w w') : OwnI w' base v L := owns_keep h hb
theorem OwnI.reads {w : World} {base : Nat} {v : Value} {L : List Int} (h : OwnI w base v L) (hl : L.length ≤ Room) :
    ∃ oa cap, v = .slice oa L.length cap ∧ IntsAt w oa L := by
  obtain ⟨oa, cap, hv, hc⟩ := owns_cells h
  refine ⟨oa, cap, hv, hl, fun h0 => ?_⟩
  obtain ⟨g, ha, hbg, hlt, _, hcell, _⟩ := hc h0
  refine ⟨g, 0, ha, hlt, fun k hk => ?_⟩
  rw [Nat.zero_add, hcell k (by omega), List.getElem?_map, List.getElem?_eq_getElem hk]
  simp [encI, nth, List.getD, List.getElem?_eq_getElem hk]

theorem owns_block {w : World} {base : Nat} {e : TypeId} {size : Nat} {oa : Option Addr} {n m cap : Nat} {xs : List Value} (h : w.ownsRow base e size (.slice oa n cap) m xs) : ∀ a, oa = some a → base ≤ a.block := by
  intro a ha
  subst ha
  exact (World.ownsRow.lt h a.block rfl).1
theorem IntsAt.set {w : World} {oa : Option Addr} {L : List Int} (h : IntsAt w oa L) (p : Addr) (v : Value) (hne : ∀ a, oa = some a → a.block ≠ p.block) : IntsAt (w.setCell p v) oa L :=
  ⟨h.len, fun h0 => by
    obtain ⟨b, off, e, hlt, hc⟩ := h.at_ h0
    have hb : b ≠ p.block := hne _ e
    exact ⟨b, off, e, by simpa using hlt, fun k hk => by
      have : (w.setCell p v).heap[b]? = w.heap[b]? := Below.heap_setCell w p v b hb
      rw [World.cell?_of_block (w := w) (a := ⟨b, off + k, none⟩) this]; exact hc k hk⟩⟩
theorem nth_eq {L : List Int} {k : Nat} (hk : k < L.length) : L[k]? = some (nth L k) := by
  simp [nth, List.getD, List.getElem?_eq_getElem hk]
theorem list_ext {L M : List Int} (hl : L.length = M.length) (h : ∀ k, k < L.length → nth L k = nth M k) : L = M := by
  apply List.ext_getElem? 
  intro k
  by_cases hk : k < L.length
  · rw [nth_eq hk, nth_eq (by omega), h k hk]
  · rw [List.getElem?_eq_none (by omega), List.getElem?_eq_none (by omega)]
theorem nth_set {L : List Int} {j k : Nat} {x : Int} (hj : j < L.length) : nth (L.set j x) k = if k = j then x else nth L k := by
  unfold nth List.getD
  rw [List.getElem?_set]
  by_cases h : j = k
  · subst h; simp [hj]
  · rw [if_neg h, if_neg (by omega)]
theorem OwnI.store {w : World} {base g : Nat} {n cap : Nat} {L : List Int} (h : OwnI w base (.slice (some ⟨g, 0, none⟩) n cap) L) (hn : n = L.length) (j : Nat) (x : Int) :
    OwnI (w.setCell ⟨g, j, none⟩ (.int .i64 x)) base (.slice (some ⟨g, 0, none⟩) n cap) (L.set j x) := by
  subst hn
  have := (h.stored j (.int .i64 x)).1
  unfold OwnI
  rw [List.length_set, List.map_set]
  exact this
theorem OwnI.cell {w : World} {base g : Nat} {n cap : Nat} {L : List Int} (h : OwnI w base (.slice (some ⟨g, 0, none⟩) n cap) L) (hn : n = L.length) (j : Nat) (hj : j < n) :
    w.cell? ⟨g, j, none⟩ = some (.int .i64 (nth L j)) ∧ w.frozen? ⟨g, j, none⟩ = false := by
  subst hn
  refine ⟨?_, h.frozenAt j⟩
  rw [h.cellAt j (by omega), List.getElem?_map, nth_eq hj]; rfl

/-- A slice of ints that came in, as the row's shell hands it over. -/
def IsRow (k : IntKind) (w : World) (a : Option Addr) (len cap : Nat) (zs : List Int) : Prop :=
  (a = none ∧ len = 0 ∧ cap = 0 ∧ zs = []) ∨
  ∃ x, a = some x ∧ len ≤ cap ∧ cap ≤ maxLen ∧ zs.length = cap ∧ (∀ i, i < zs.length → w.cell? (x.add i) = some (.int k (zs.getD i 0))) ∧ ∀ n ∈ zs, (Lit.int k n).wf = true
/-- A slice of ints that came in: it has some length, and reads as a list if that is not beyond all bounds. -/
def InInts (w : World) (v : Value) : Prop := ∃ a len cap zs, v = .slice a len cap ∧ IsRow .i64 w a len cap zs
theorem IsRow.ints {w : World} {a : Option Addr} {len cap : Nat} {zs : List Int} (h : IsRow .i64 w a len cap zs) (hr : len ≤ Room) : ∃ L : List Int, L.length = len ∧ IntsAt w a L := by
  rcases h with ⟨rfl, rfl, rfl, rfl⟩ | ⟨x, rfl, hl, hm, hz, hcell, hwz⟩
  · exact ⟨[], rfl, by simp, fun h => absurd h (by simp)⟩
  · refine ⟨zs.take len, by rw [List.length_take]; omega, by rw [List.length_take]; omega, fun h0 => ?_⟩
    rw [List.length_take] at h0
    obtain ⟨b, off, spot⟩ := x
    have hc := hcell 0 (by omega)
    have hspot : spot = none := by simpa [Addr.add] using World.cell?_spot hc
    subst hspot
    refine ⟨b, off, rfl, World.block_lt_of_cell? w ⟨b, off, none⟩ (by simpa [Addr.add] using hc), fun k hk => ?_⟩
    rw [List.length_take] at hk
    have := hcell k (by omega)
    have e : (⟨b, off, none⟩ : Addr).add k = ⟨b, off + k, none⟩ := by unfold Addr.add; split <;> simp_all
    rw [e] at this
    rw [this]
    simp [nth, List.getD, (show k < len by omega)]
theorem bne_false {a b : Int} (h : a = b) : (a != b) = false := by simp [h]
theorem bne_true {a b : Int} (h : a ≠ b) : (a != b) = true := by simp [h]

theorem ownI_made {w : World} {base : Nat} {v : Value} {n : Nat} (h : w.ownsRow base 3 1 v n (madeCells (Value.cells (.int .i64 0)) (n * 1)).toList) : OwnI w base v (List.replicate n 0) := by
  have e : (madeCells (Value.cells (.int .i64 0)) (n * 1)).toList = (List.replicate n (0 : Int)).map encI := by
    rw [Nat.mul_one]
    have : (Value.cells (.int .i64 0)) = #[Value.int .i64 0] := rfl
    rw [this, toList_madeCells_one, List.map_replicate]; rfl
  rw [e] at h
  unfold OwnI
  rw [List.length_replicate]
  exact h

theorem info_int : (Tryd.prog.info? 3).map (fun i => (i.zero, i.size, i.bytes)) = some (some (.int .i64 0), 1, 8) := by kernel_rfl
end Go.Proofs.YtcenndlbhgfdfaaDoor
namespace Go.Proofs.YtcenndlbhgfdfaaDoor
open Go.RowKit
set_option linter.unusedVariables false
set_option maxRecDepth 100000

end Go.Proofs.YtcenndlbhgfdfaaDoor
namespace Go.Proofs.YtcenndlbhgfdfaaDoor
open Go.RowKit
set_option linter.unusedVariables false
set_option maxRecDepth 100000

def isDepF (n : Int) (l r : Int) : Bool := decide (1 ≤ n) && isAttr n l && decide (0 ≤ r) && decide (r < n)
def dv (l r : Int) : Value := .agg #[.int .i64 l, .int .i64 r]

theorem c_isDep (n l r : Int) (w : World) : Ans Tryd.prog 63 #[.int .i64 n, .agg #[.int .i64 l, .int .i64 r]] w (.bool (isDepF n l r)) := by
  unfold Ans
  have hb := Below.refl w.heap.size w
  by_cases h1 : 1 ≤ n
  · cases ha : isAttr n l
    · go_enter Tryd.func63, Tryd.ntmps63
      go_wp2_with (first | (go_at_call 28; refine Calls.mono (c_isAttributes _ _ _) ?_; rintro e w1 ⟨rfl, hbn⟩; replace hb := bel_to (w := w) (by first | exact hb | exact hb.alloc hb.size _ | exact (hb.alloc hb.size _).alloc (Nat.le_trans hb.size (by simp)) _ | exact hb.setCell (by simp [hb.size]) _) hbn; clear hbn))
      go_ret
      exact ⟨ret_bool (by simp [isDepF, ha]), hb⟩
    · go_enter Tryd.func63, Tryd.ntmps63
      go_wp2_with (first | (go_at_call 28; refine Calls.mono (c_isAttributes _ _ _) ?_; rintro e w1 ⟨rfl, hbn⟩; have b0 := box_cell hbn (by simp) 0 _ rfl; have b1 := box_cell hbn (by simp) 1 _ rfl; replace hb := bel_to (w := w) (by first | exact hb | exact hb.alloc hb.size _ | exact (hb.alloc hb.size _).alloc (Nat.le_trans hb.size (by simp)) _ | exact hb.setCell (by simp [hb.size]) _) hbn; clear hbn))
      all_goals go_ret
      all_goals exact ⟨ret_bool (by simp [isDepF, ha, h1]; omega), hb⟩
  · go_enter Tryd.func63, Tryd.ntmps63
    go_wp2
    go_ret
    exact ⟨ret_bool (by simp [isDepF]; omega), hb.alloc hb.size _⟩
theorem c_specIsDep (n l r : Int) (w : World) : Ans Tryd.prog 12 #[.int .i64 n, .agg #[.int .i64 l, .int .i64 r]] w (.bool (isDepF n l r)) := by
  unfold Ans
  have hb := Below.refl w.heap.size w
  cases h1 : inB n 1 5
  · go_enter Tryd.func12, Tryd.ntmps12
    go_wp2_with (first | (go_at_call 40; refine Calls.mono (c_l1In _ _ _ _) ?_; rintro e w1 ⟨rfl, hbn⟩; replace hb := bel_to (w := w) (by first | exact hb | exact hb.alloc hb.size _ | exact (hb.alloc hb.size _).alloc (Nat.le_trans hb.size (by simp)) _ | exact hb.setCell (by simp [hb.size]) _) hbn; clear hbn))
    go_ret
    exact ⟨ret_bool (by simp [isDepF, inB, isAttr] at h1 ⊢; omega), hb⟩
  · have h2 : 1 ≤ n ∧ n ≤ 5 := by simpa [inB] using h1
    cases ha : isAttr n l
    · go_enter Tryd.func12, Tryd.ntmps12
      go_wp2_with (first | (go_at_call 40; refine Calls.mono (c_l1In _ _ _ _) ?_; rintro e w1 ⟨rfl, hbn⟩; have b0 := box_cell hbn (by simp) 0 _ rfl; have b1 := box_cell hbn (by simp) 1 _ rfl; replace hb := bel_to (w := w) (by exact hb.alloc hb.size _) hbn; clear hbn) | (go_at_call 34; refine Calls.mono (c_specIsAttributes _ _ _) ?_; rintro e w1 ⟨rfl, hbn⟩; replace hb := bel_to (w := w) (by first | exact hb | exact hb.alloc hb.size _ | exact (hb.alloc hb.size _).alloc (Nat.le_trans hb.size (by simp)) _ | exact hb.setCell (by simp [hb.size]) _) hbn; clear hbn))
      go_ret
      exact ⟨ret_bool (by simp [isDepF, ha]), hb⟩
    · go_enter Tryd.func12, Tryd.ntmps12
      go_wp2_with fail
      refine Calls.mono (c_l1In _ _ _ _) ?_
      rintro e w1 ⟨rfl, hbn⟩
      have b0 := box_cell hbn (by simp) 0 _ rfl
      have b1 := box_cell hbn (by simp) 1 _ rfl
      replace hb := bel_to (w := w) (hb.alloc hb.size _) hbn
      clear hbn
      go_wp2_with (first | (go_at_call 34; refine Calls.mono (c_specIsAttributes _ _ _) ?_; rintro e w1 ⟨rfl, hbn⟩; replace b0 := cell_keep b0 hbn; replace b1 := cell_keep b1 hbn; replace hb := bel_to (w := w) (by first | exact hb | exact hb.alloc hb.size _ | exact (hb.alloc hb.size _).alloc (Nat.le_trans hb.size (by simp)) _ | exact hb.setCell (by simp [hb.size]) _) hbn; clear hbn) | (go_at_call 40; refine Calls.mono (c_l1In _ _ _ _) ?_; rintro e w1 ⟨rfl, hbn⟩; replace hb := bel_to (w := w) (by first | exact hb | exact hb.alloc hb.size _ | exact (hb.alloc hb.size _).alloc (Nat.le_trans hb.size (by simp)) _ | exact hb.setCell (by simp [hb.size]) _) hbn; clear hbn))
      go_ret
      exact ⟨ret_bool (by rw [Bool.eq_iff_iff]; simp [isDepF, ha, inB, h2.1]; omega), hb⟩

def areDepsF (n : Int) (D : List (Int × Int)) : Bool := D.all (fun d => isDepF n d.1 d.2) && (decide (1 ≤ n) && decide (n ≤ 5) && decide (D.length ≤ 20))

theorem dnth_eq {L : List (Int × Int)} {k : Nat} (hk : k < L.length) : L[k]? = some (nl L k, nr L k) := by
  simp [nl, nr, List.getD, List.getElem?_eq_getElem hk]
theorem dall_take_succ (p : Int × Int → Bool) (L : List (Int × Int)) (k : Nat) (hk : k < L.length) : (L.take (k + 1)).all p = ((L.take k).all p && p (nl L k, nr L k)) := by
  rw [List.take_add_one, dnth_eq hk]; simp
theorem dall_false (p : Int × Int → Bool) (L : List (Int × Int)) (k : Nat) (hk : k < L.length) (h : p (nl L k, nr L k) = false) : L.all p = false := by
  rw [List.all_eq_false]
  exact ⟨_, List.mem_iff_getElem?.2 ⟨k, dnth_eq hk⟩, by simp [h]⟩

end Go.Proofs.YtcenndlbhgfdfaaDoor
namespace Go.Proofs.YtcenndlbhgfdfaaDoor
open Go.RowKit
set_option linter.unusedVariables false
set_option maxRecDepth 100000

def encD (d : Int × Int) : List Value := [.int .i64 d.1, .int .i64 d.2]
def dcells (D : List (Int × Int)) : List Value := D.flatMap encD
theorem dcells_length : ∀ D : List (Int × Int), (dcells D).length = D.length * 2
  | [] => rfl
  | d :: D => by
    have := dcells_length D
    simp only [dcells, List.flatMap_cons, List.length_append, List.length_cons] at this ⊢
    rw [this]; simp [encD]; omega
theorem dcells_cons (d : Int × Int) (D : List (Int × Int)) : dcells (d :: D) = .int .i64 d.1 :: .int .i64 d.2 :: dcells D := rfl
theorem dcells_append (D E : List (Int × Int)) : dcells (D ++ E) = dcells D ++ dcells E := by simp [dcells]
theorem dcells_at : ∀ (D : List (Int × Int)) (k : Nat), k < D.length → (dcells D)[k * 2]? = some (.int .i64 (nl D k)) ∧ (dcells D)[k * 2 + 1]? = some (.int .i64 (nr D k))
  | [], k, h => absurd h (by simp)
  | d :: D, 0, _ => ⟨rfl, rfl⟩
  | d :: D, k + 1, h => by
    have := dcells_at D k (by simpa using h)
    rw [dcells_cons, show (k + 1) * 2 = k * 2 + 1 + 1 by omega, show k * 2 + 1 + 1 + 1 = (k * 2 + 1) + 1 + 1 by omega]
    simp only [List.getElem?_cons_succ]
    exact this
theorem dcells_set : ∀ (D : List (Int × Int)) (k : Nat) (d : Int × Int), ((dcells D).set (k * 2) (.int .i64 d.1)).set (k * 2 + 1) (.int .i64 d.2) = dcells (D.set k d)
  | [], k, d => by simp [dcells]
  | e :: D, 0, d => rfl
  | e :: D, k + 1, d => by
    have := dcells_set D k d
    rw [List.set_cons_succ, dcells_cons, dcells_cons, show (k + 1) * 2 = k * 2 + 1 + 1 by omega, show k * 2 + 1 + 1 + 1 = (k * 2 + 1) + 1 + 1 by omega]
    simp only [List.set_cons_succ]
    rw [this]
theorem nl_set {L : List (Int × Int)} {j k : Nat} {x : Int × Int} (hj : j < L.length) : nl (L.set j x) k = if k = j then x.1 else nl L k := by
  unfold nl List.getD
  rw [List.getElem?_set]
  by_cases h : j = k
  · subst h; simp [hj]
  · rw [if_neg h, if_neg (by omega)]
theorem nr_set {L : List (Int × Int)} {j k : Nat} {x : Int × Int} (hj : j < L.length) : nr (L.set j x) k = if k = j then x.2 else nr L k := by
  unfold nr List.getD
  rw [List.getElem?_set]
  by_cases h : j = k
  · subst h; simp [hj]
  · rw [if_neg h, if_neg (by omega)]

/-- 'v' is a slice of dependencies of the call's own (made from block 'base' on) that reads as D. -/
def OwnD (w : World) (base : Nat) (v : Value) (D : List (Int × Int)) : Prop := w.ownsRow base 28 2 v D.length (dcells D)
theorem OwnD.keep {w w' : World} {base : Nat} {v : Value} {D : List (Int × Int)} (h : OwnD w base v D) (hb : Below w.heap.size w w') : OwnD w' base v D := owns_keep h hb
theorem OwnD.reads {w : World} {base : Nat} {v : Value} {D : List (Int × Int)} (h : OwnD w base v D) (hl : D.length ≤ Room) :
    ∃ oa cap, v = .slice oa D.length cap ∧ DepsAt w oa D := by
  obtain ⟨oa, cap, hv, hc⟩ := owns_cells h
  refine ⟨oa, cap, hv, hl, fun h0 => ?_⟩
  obtain ⟨g, ha, hbg, hlt, _, hcell, _⟩ := hc h0
  refine ⟨g, 0, ha, hlt, fun k hk => ?_⟩
  rw [Nat.zero_add, hcell (k * 2) (by omega), hcell (k * 2 + 1) (by omega)]
  exact dcells_at D k hk
theorem OwnD.cell {w : World} {base g : Nat} {n cap : Nat} {D : List (Int × Int)} (h : OwnD w base (.slice (some ⟨g, 0, none⟩) n cap) D) (hn : n = D.length) (k : Nat) (hk : k < n) :
    w.cell? ⟨g, k * 2, none⟩ = some (.int .i64 (nl D k)) ∧ w.cell? ⟨g, k * 2 + 1, none⟩ = some (.int .i64 (nr D k)) ∧ w.frozen? ⟨g, k * 2, none⟩ = false ∧ w.frozen? ⟨g, k * 2 + 1, none⟩ = false := by
  subst hn
  refine ⟨?_, ?_, h.frozenAt _, h.frozenAt _⟩
  · rw [h.cellAt (k * 2) (by omega)]; exact (dcells_at D k hk).1
  · rw [h.cellAt (k * 2 + 1) (by omega)]; exact (dcells_at D k hk).2
theorem OwnD.store {w : World} {base g : Nat} {n cap : Nat} {D : List (Int × Int)} (h : OwnD w base (.slice (some ⟨g, 0, none⟩) n cap) D) (hn : n = D.length) (k : Nat) (l r : Int) :
    OwnD ((w.setCell ⟨g, k * 2, none⟩ (.int .i64 l)).setCell ⟨g, k * 2 + 1, none⟩ (.int .i64 r)) base (.slice (some ⟨g, 0, none⟩) n cap) (D.set k (l, r)) := by
  subst hn
  have := ((h.stored (k * 2) (.int .i64 l)).1.stored (k * 2 + 1) (.int .i64 r)).1
  unfold OwnD
  rw [List.length_set, ← dcells_set]
  exact this
theorem madeD (n : Nat) : (madeCells (Value.cells (.agg #[.int .i64 0, .int .i64 0])) (n * 2)).toList = dcells (List.replicate n (0, 0)) := by
  apply List.ext_getElem?
  intro j
  have hl : (dcells (List.replicate n (0, 0))).length = n * 2 := by rw [dcells_length]; simp
  by_cases hj : j < n * 2
  · have h2 : j / 2 < (List.replicate n ((0 : Int), (0 : Int))).length := by simp; omega
    have hd := dcells_at _ _ h2
    have z : nl (List.replicate n (0, 0)) (j / 2) = 0 ∧ nr (List.replicate n (0, 0)) (j / 2) = 0 := by
      simp only [List.length_replicate] at h2
      unfold nl nr List.getD
      rw [List.getElem?_replicate, if_pos h2]; exact ⟨rfl, rfl⟩
    rw [z.1, z.2] at hd
    rcases Nat.mod_two_eq_zero_or_one j with h | h
    · have e : j = j / 2 * 2 := by omega
      have := hd.1
      rw [← e] at this
      rw [this]
      simp [madeCells, Value.cells, hj, h]
    · have e : j = j / 2 * 2 + 1 := by omega
      have := hd.2
      rw [← e] at this
      rw [this]
      simp [madeCells, Value.cells, hj, h]
  · have h1 : (madeCells (Value.cells (.agg #[.int .i64 0, .int .i64 0])) (n * 2)).toList.length ≤ j := by
      rw [Array.length_toList, size_madeCells]; omega
    rw [List.getElem?_eq_none h1, List.getElem?_eq_none (by rw [hl]; omega)]
theorem info_dep : (Tryd.prog.info? 28).map (fun i => (i.zero, i.size, i.bytes)) = some (some (.agg #[.int .i64 0, .int .i64 0]), 2, 16) := by kernel_rfl
end Go.Proofs.YtcenndlbhgfdfaaDoor
namespace Go.Proofs.YtcenndlbhgfdfaaDoor
open Go.RowKit
set_option linter.unusedVariables false
set_option maxRecDepth 100000

def seqI (k : Int) (n : Nat) : List Int := (List.range n).map fun (i : Nat) => k + i
theorem seqI_length (k : Int) (n : Nat) : (seqI k n).length = n := by simp [seqI]
theorem seqI_nth (k : Int) (n j : Nat) (h : j < n) : nth (seqI k n) j = k + j := by simp [nth, seqI, List.getD, h]
def seqD (k : Int) (n : Nat) : List (Int × Int) := (List.range n).map fun (i : Nat) => (k + 2 * i, k + 2 * i + 1)
theorem seqD_length (k : Int) (n : Nat) : (seqD k n).length = n := by simp [seqD]
theorem seqD_nl (k : Int) (n j : Nat) (h : j < n) : nl (seqD k n) j = k + 2 * j := by simp [nl, seqD, List.getD, h]
theorem seqD_nr (k : Int) (n j : Nat) (h : j < n) : nr (seqD k n) j = k + 2 * j + 1 := by simp [nr, seqD, List.getD, h]

theorem OwnI.ints {w : World} {base : Nat} {oa : Option Addr} {n cap : Nat} {L : List Int} (h : OwnI w base (.slice oa n cap) L) (hn : n = L.length) (hl : L.length ≤ Room) : IntsAt w oa L := by
  obtain ⟨oa', cap', hv, hI⟩ := h.reads hl
  simp only [Value.slice.injEq] at hv
  rw [hv.1]; exact hI
theorem OwnD.deps {w : World} {base : Nat} {oa : Option Addr} {n cap : Nat} {L : List (Int × Int)} (h : OwnD w base (.slice oa n cap) L) (hn : n = L.length) (hl : L.length ≤ Room) : DepsAt w oa L := by
  obtain ⟨oa', cap', hv, hI⟩ := h.reads hl
  simp only [Value.slice.injEq] at hv
  rw [hv.1]; exact hI
theorem OwnI.shape {w : World} {base : Nat} {v : Value} {L : List Int} (h : OwnI w base v L) : ∃ oa cap, v = .slice oa L.length cap := by
  obtain ⟨oa, cap, hv, _⟩ := owns_cells h; exact ⟨oa, cap, hv⟩
theorem OwnD.shape {w : World} {base : Nat} {v : Value} {L : List (Int × Int)} (h : OwnD w base v L) : ∃ oa cap, v = .slice oa L.length cap := by
  obtain ⟨oa, cap, hv, _⟩ := owns_cells h; exact ⟨oa, cap, hv⟩
/-- Two slices of the call's own, made one behind the other, lie in different blocks. -/
def Apart (v v' : Value) : Prop := v.ownBlock = none ∨ v.ownBlock ≠ v'.ownBlock
theorem apart_old {w w' : World} {base e e' size size' n n' : Nat} {v v' : Value} {xs xs' : List Value} (h : w.ownsRow base e size v n xs) (h' : w'.ownsRow w.heap.size e' size' v' n' xs') : Apart v v' := by
  cases hv : v.ownBlock with
  | none => exact .inl hv
  | some k =>
    refine .inr fun e => ?_
    have h1 := (World.ownsRow.lt h k hv).2
    have h2 := (World.ownsRow.lt h' k (by rw [← e]; exact hv)).1
    omega
theorem Apart.symm {v v' : Value} (h : Apart v v') : Apart v' v := by
  unfold Apart at *
  cases hv : v'.ownBlock with
  | none => exact .inl rfl
  | some k =>
    right
    rcases h with h | h
    · rw [h]; simp
    · intro e; exact h (by rw [hv]; exact e.symm)
theorem OwnI.based {w : World} {base base' : Nat} {v : Value} {L : List Int} (h : OwnI w base v L) (hb : base' ≤ base) : OwnI w base' v L := owns_base h hb
theorem OwnD.based {w : World} {base base' : Nat} {v : Value} {L : List (Int × Int)} (h : OwnD w base v L) (hb : base' ≤ base) : OwnD w base' v L := owns_base h hb
theorem OwnI.far {w w' : World} {base : Nat} {v v' : Value} {L : List Int} (h : OwnI w base v L) (hg : w.grownBy w' v'.ownBlock) (ha : Apart v v') : OwnI w' base v L := World.ownsRow.kept h hg ha
theorem OwnD.far {w w' : World} {base : Nat} {v v' : Value} {L : List (Int × Int)} (h : OwnD w base v L) (hg : w.grownBy w' v'.ownBlock) (ha : Apart v v') : OwnD w' base v L := World.ownsRow.kept h hg ha
theorem below_mark {w a b : World} {e size n : Nat} {v : Value} {xs : List Value} (hb : Below w.heap.size w a) (h : a.ownsRow w.heap.size e size v n xs) (hg : a.grownBy b v.ownBlock) : Below w.heap.size w b :=
  hb.grown hg hb.size fun k hk => (World.ownsRow.lt h k hk).1

theorem grown_refl (w : World) (row : Option Nat) : w.grownBy w row := ⟨rfl, rfl, rfl, Nat.le_refl _, fun _ _ _ => rfl⟩
theorem grown_trans {a b c : World} {row : Option Nat} (h : a.grownBy b row) (k : b.grownBy c row) : a.grownBy c row :=
  ⟨k.os.trans h.os, k.tape.trans h.tape, k.output.trans h.output, Nat.le_trans h.size k.size, fun i hi hr => (k.block i (Nat.lt_of_lt_of_le hi h.size) hr).trans (h.block i hi hr)⟩
theorem grown_of_below {w w' : World} (h : Below w.heap.size w w') (row : Option Nat) : w.grownBy w' row := ⟨h.os, h.tape, h.output, h.size, fun k hk _ => h.block k hk⟩
theorem grown_set (w : World) (g j : Nat) (v : Value) : w.grownBy (w.setCell ⟨g, j, none⟩ v) (some g) :=
  ⟨rfl, rfl, rfl, by simp [World.setCell], fun k _ hk => Below.heap_setCell w ⟨g, j, none⟩ v k (fun e => hk (by simp [e]))⟩

end Go.Proofs.YtcenndlbhgfdfaaDoor
namespace Go.Proofs.YtcenndlbhgfdfaaDoor
open Go.RowKit
set_option linter.unusedVariables false
set_option maxRecDepth 100000

def row (R : List (List Int)) (k : Nat) : List Int := R.getD k []
theorem row_eq {R : List (List Int)} {k : Nat} (h : k < R.length) : R[k]? = some (row R k) := by simp [row, List.getD, h]
theorem row_mem {R : List (List Int)} {k : Nat} (h : k < R.length) : row R k ∈ R := List.mem_iff_getElem?.2 ⟨k, row_eq h⟩
structure RowsAt (w : World) (oa : Option Addr) (R : List (List Int)) : Prop where
  len : R.length ≤ Room
  at_ : 0 < R.length → ∃ b off, oa = some ⟨b, off, none⟩ ∧ b < w.heap.size ∧ ∀ k, k < R.length → ∃ o c, w.cell? ⟨b, off + k, none⟩ = some (.slice o (row R k).length c) ∧ IntsAt w o (row R k)
theorem RowsAt.keep {w w' : World} {oa : Option Addr} {R : List (List Int)} (h : RowsAt w oa R) (hb : Below w.heap.size w w') : RowsAt w' oa R :=
  ⟨h.len, fun h0 => by
    obtain ⟨b, off, e, hlt, hc⟩ := h.at_ h0
    exact ⟨b, off, e, Nat.lt_of_lt_of_le hlt hb.size, fun k hk => by
      obtain ⟨o, c, h1, h2⟩ := hc k hk
      exact ⟨o, c, cell_keep h1 hb, h2.keep hb⟩⟩⟩
/-- An argument that came in: its length, the lengths of its lists. -/
structure RowsIn (w : World) (oa : Option Addr) (n : Nat) (Ln : Nat → Nat) : Prop where
  len : n ≤ maxLen
  rows : 0 < n → ∃ b off, oa = some ⟨b, off, none⟩ ∧ b < w.heap.size ∧ ∀ r, r < n → Ln r ≤ maxLen ∧ ∃ o c, w.cell? ⟨b, off + r, none⟩ = some (.slice o (Ln r) c) ∧ (Ln r ≤ Room → ∃ L : List Int, L.length = Ln r ∧ IntsAt w o L)
theorem RowsIn.read {w : World} {oa : Option Addr} {n : Nat} {Ln : Nat → Nat} (h : RowsIn w oa n Ln) (hn : n ≤ Room) (hL : ∀ r, r < n → Ln r ≤ Room) : ∃ R : List (List Int), R.length = n ∧ RowsAt w oa R := by
  rcases Nat.eq_zero_or_pos n with h0 | h0
  · exact ⟨[], by simp [h0], by simp, fun h => absurd h (by simp)⟩
  · obtain ⟨b, off, e, hb, hr⟩ := h.rows h0
    have each : ∀ r, r < n → ∃ L : List Int, L.length = Ln r ∧ ∃ o c, w.cell? ⟨b, off + r, none⟩ = some (.slice o (Ln r) c) ∧ IntsAt w o L := fun r hrn => by
      obtain ⟨_, o, c, h1, h2⟩ := hr r hrn
      obtain ⟨L, h3, h4⟩ := h2 (hL r hrn)
      exact ⟨L, h3, o, c, h1, h4⟩
    have hch : ∃ f : Nat → List Int, ∀ r, r < n → (f r).length = Ln r ∧ ∃ o c, w.cell? ⟨b, off + r, none⟩ = some (.slice o (Ln r) c) ∧ IntsAt w o (f r) :=
      ⟨fun r => if hr : r < n then Classical.choose (each r hr) else [], fun r hr => by simp only [hr, dif_pos]; exact Classical.choose_spec (each r hr)⟩
    obtain ⟨f, hf⟩ := hch
    refine ⟨(List.range n).map f, by simp, by simpa using hn, fun _ => ⟨b, off, e, hb, fun k hk => ?_⟩⟩
    have hk : k < n := by simpa using hk
    have er : row ((List.range n).map f) k = f k := by simp [row, List.getD, hk]
    obtain ⟨h1, o, c, h2, h3⟩ := hf k hk
    exact ⟨o, c, by rw [er, h1]; exact h2, by rw [er]; exact h3⟩

def OwnV (w : World) (base : Nat) (v : Value) (xs : List Value) : Prop := w.ownsRow base 50 1 v xs.length xs
theorem OwnV.keep {w w' : World} {base : Nat} {v : Value} {xs : List Value} (h : OwnV w base v xs) (hb : Below w.heap.size w w') : OwnV w' base v xs := owns_keep h hb
theorem ownV_made {w : World} {base : Nat} {v : Value} {n : Nat} (h : w.ownsRow base 50 1 v n (madeCells (Value.cells (.slice none 0 0)) (n * 1)).toList) : OwnV w base v (List.replicate n (.slice none 0 0)) := by
  have e : (madeCells (Value.cells (.slice none 0 0)) (n * 1)).toList = List.replicate n (.slice none 0 0) := by
    rw [Nat.mul_one]
    have : (Value.cells (.slice none 0 0)) = #[Value.slice none 0 0] := rfl
    rw [this, toList_madeCells_one]
  rw [e] at h
  unfold OwnV
  rw [List.length_replicate]
  exact h
theorem OwnV.cell {w : World} {base g n cap : Nat} {xs : List Value} (h : OwnV w base (.slice (some ⟨g, 0, none⟩) n cap) xs) (hn : n = xs.length) (j : Nat) (hj : j < n) :
    w.cell? ⟨g, j, none⟩ = xs[j]? ∧ w.frozen? ⟨g, j, none⟩ = false := by
  subst hn
  exact ⟨h.cellAt j (by omega), h.frozenAt j⟩
theorem OwnV.store {w : World} {base g n cap : Nat} {xs : List Value} (h : OwnV w base (.slice (some ⟨g, 0, none⟩) n cap) xs) (hn : n = xs.length) (j : Nat) (u : Value) (hu : u.oneCell' = true) :
    OwnV (w.setCell ⟨g, j, none⟩ u) base (.slice (some ⟨g, 0, none⟩) n cap) (xs.set j u) := by
  subst hn
  unfold OwnV
  rw [List.length_set]
  exact (h.stored j u).1
theorem info_ints : (Tryd.prog.info? 50).map (fun i => (i.zero, i.size, i.bytes)) = some (some (.slice none 0 0), 1, 24) := by kernel_rfl
def Off (o : Option Addr) (g : Nat) : Prop := ∀ b off s, o = some ⟨b, off, s⟩ → g < b
theorem cell_far {w : World} {a a' : Addr} {u v : Value} (h : w.cell? a = some v) (hne : a.block ≠ a'.block) : (w.setCell a' u).cell? a = some v :=
  (World.cell?_of_block (Below.heap_setCell w a' u a.block hne)).trans h
theorem IntsAt.far {w : World} {o : Option Addr} {L : List Int} {g j : Nat} {u : Value} (h : IntsAt w o L) (ho : Off o g) : IntsAt (w.setCell ⟨g, j, none⟩ u) o L :=
  ⟨h.len, fun h0 => by
    obtain ⟨b, off, e, hlt, hc⟩ := h.at_ h0
    exact ⟨b, off, e, Nat.lt_of_lt_of_le hlt (grown_set w g j u).size, fun k hk => cell_far (hc k hk) (by have := ho b off none e; simp; omega)⟩⟩
theorem off_new {w : World} {base g n c : Nat} {o : Option Addr} {e : TypeId} {xs : List Value} (h : w.ownsRow base e 1 (.slice o n c) n xs) (hg : g < base) : Off o g := by
  intro b off s e
  subst e
  have := (World.ownsRow.lt h b rfl).1
  omega

/-- A list of lists whose blocks all lie from block B on. -/
structure RowsNew (w : World) (B : Nat) (oa : Option Addr) (R : List (List Int)) : Prop where
  len : R.length ≤ Room
  at_ : 0 < R.length → ∃ b off, oa = some ⟨b, off, none⟩ ∧ B ≤ b ∧ b < w.heap.size ∧ ∀ k, k < R.length → ∃ o c, w.cell? ⟨b, off + k, none⟩ = some (.slice o (row R k).length c) ∧ IntsAt w o (row R k) ∧ Off o B
theorem RowsNew.rows {w : World} {B : Nat} {oa : Option Addr} {R : List (List Int)} (h : RowsNew w B oa R) : RowsAt w oa R :=
  ⟨h.len, fun h0 => by
    obtain ⟨b, off, e, _, hlt, hc⟩ := h.at_ h0
    exact ⟨b, off, e, hlt, fun k hk => by
      obtain ⟨o, c, h1, h2, _⟩ := hc k hk
      exact ⟨o, c, h1, h2⟩⟩⟩
theorem RowsNew.far {w : World} {B : Nat} {oa : Option Addr} {R : List (List Int)} (h : RowsNew w B oa R) {g : Nat} (j : Nat) (u : Value) (hg : g < B) : RowsNew (w.setCell ⟨g, j, none⟩ u) B oa R :=
  ⟨h.len, fun h0 => by
    obtain ⟨b, off, e, hB, hlt, hc⟩ := h.at_ h0
    exact ⟨b, off, e, hB, Nat.lt_of_lt_of_le hlt (grown_set w g j u).size, fun k hk => by
      obtain ⟨o, c, h1, h2, h3⟩ := hc k hk
      exact ⟨o, c, cell_far h1 (by simp; omega), h2.far (fun b off s e => by have := h3 b off s e; omega), h3⟩⟩⟩
end Go.Proofs.YtcenndlbhgfdfaaDoor
namespace Go.Proofs.YtcenndlbhgfdfaaDoor
open Go.RowKit
set_option linter.unusedVariables false
set_option maxRecDepth 100000

def Val (D : List (Int × Int)) : Prop := ∀ d ∈ D, St d.1 ∧ Co d.2
def stepD (x : Int) (d : Int × Int) : Int := if insA d.1 x = true then uni x (one d.2) else x
def roundD (D : List (Int × Int)) (x : Int) : Int := D.foldl stepD x
def roundsD (D : List (Int × Int)) : Nat → Int → Int
  | 0, x => x
  | n + 1, x => roundsD D n (roundD D x)
def cloF (D : List (Int × Int)) (x : Int) : Int := roundsD D 6 x
/-- no dependency leads out of x -/
def Closed (D : List (Int × Int)) (x : Int) : Prop := ∀ d ∈ D, ins d.1 x = true → hasc x d.2 = true

theorem Val.tail {d : Int × Int} {D : List (Int × Int)} (h : Val (d :: D)) : Val D := fun e he => h e (List.mem_cons_of_mem _ he)
theorem Val.head {d : Int × Int} {D : List (Int × Int)} (h : Val (d :: D)) : St d.1 ∧ Co d.2 := h d (List.mem_cons_self ..)

theorem ins_uni_left {x y : Int} (hx : St x) (hy : St y) : ins x (uni x y) = true :=
  (ins_iff hx (uni_st hx hy)).2 fun c hc h => by rw [hasc_uni hx hy hc, h]; rfl
theorem uni_one_same {x c : Int} (hx : St x) (hc : Co c) (h : hasc x c = true) : uni x (one c) = x :=
  set_ext (uni_st hx (one_st hc)) hx fun d hd => by
    rw [hasc_uni hx (one_st hc) hd, hasc_one hc hd]
    by_cases e : c = d
    · subst e; simp [h]
    · simp [e]
theorem stepD_st {x : Int} {d : Int × Int} (hx : St x) (hd : St d.1 ∧ Co d.2) : St (stepD x d) := by
  unfold stepD; split
  · exact uni_st hx (one_st hd.2)
  · exact hx
theorem stepD_up {x : Int} {d : Int × Int} (hx : St x) (hd : St d.1 ∧ Co d.2) : ins x (stepD x d) = true := by
  unfold stepD; split
  · exact ins_uni_left hx (one_st hd.2)
  · exact ins_refl hx
theorem uni_ins {x y z : Int} (hx : St x) (hy : St y) (hz : St z) (h : ins x z = true) (h' : ins y z = true) : ins (uni x y) z = true :=
  (ins_iff (uni_st hx hy) hz).2 fun c hc e => by
    rw [hasc_uni hx hy hc, Bool.or_eq_true] at e
    rcases e with e | e
    · exact (ins_iff hx hz).1 h c hc e
    · exact (ins_iff hy hz).1 h' c hc e
theorem one_ins {c z : Int} (hc : Co c) (hz : St z) (h : hasc z c = true) : ins (one c) z = true :=
  (ins_iff (one_st hc) hz).2 fun d hd e => by
    rw [hasc_one hc hd] at e
    have : c = d := by simpa using e
    subst this; exact h
theorem stepD_min {x z : Int} {d : Int × Int} (hx : St x) (hz : St z) (hd : St d.1 ∧ Co d.2) (hxz : ins x z = true) (hc : ins d.1 z = true → hasc z d.2 = true) : ins (stepD x d) z = true := by
  unfold stepD; split
  · next h =>
    rw [insA_eq hd.1 hx] at h
    exact uni_ins hx (one_st hd.2) hz hxz (one_ins hd.2 hz (hc (ins_trans hd.1 hx hz h hxz)))
  · exact hxz
theorem roundD_st : ∀ {D : List (Int × Int)} {x : Int}, Val D → St x → St (roundD D x)
  | [], _, _, hx => hx
  | d :: D, x, hv, hx => roundD_st (D := D) hv.tail (stepD_st hx hv.head)
theorem roundD_up : ∀ {D : List (Int × Int)} {x : Int}, Val D → St x → ins x (roundD D x) = true
  | [], _, _, hx => ins_refl hx
  | d :: D, x, hv, hx => ins_trans hx (stepD_st hx hv.head) (roundD_st (D := D) hv.tail (stepD_st hx hv.head)) (stepD_up hx hv.head) (roundD_up (D := D) hv.tail (stepD_st hx hv.head))
theorem roundD_min : ∀ {D : List (Int × Int)} {x z : Int}, Val D → St x → St z → ins x z = true → Closed D z → ins (roundD D x) z = true
  | [], _, _, _, _, _, h, _ => h
  | d :: D, x, z, hv, hx, hz, h, hc =>
    roundD_min (D := D) hv.tail (stepD_st hx hv.head) hz (stepD_min hx hz hv.head h (hc d (List.mem_cons_self ..))) (fun e he => hc e (List.mem_cons_of_mem _ he))
/-- A round that adds nothing has met a closed set. -/
theorem roundD_same : ∀ {D : List (Int × Int)} {x : Int}, Val D → St x → roundD D x = x → Closed D x
  | [], _, _, _, _ => fun d hd => by cases hd
  | d :: D, x, hv, hx, h => by
    have h0 : stepD x d = x := ins_antisymm (stepD_st hx hv.head) hx (by
      have := roundD_up (D := D) hv.tail (stepD_st hx hv.head)
      have e : roundD D (stepD x d) = x := h
      rw [e] at this; exact this) (stepD_up hx hv.head)
    have h1 : roundD D x = x := by
      have e : roundD D (stepD x d) = x := h
      rw [h0] at e; exact e
    have ih := roundD_same (D := D) hv.tail hx h1
    intro e he
    rcases List.mem_cons.1 he with rfl | he
    · intro hi
      unfold stepD at h0
      rw [insA_eq hv.head.1 hx, if_pos hi] at h0
      have := hasc_uni hx (one_st hv.head.2) hv.head.2
      rw [h0, hasc_one hv.head.2 hv.head.2] at this
      simpa using this
    · exact ih e he
theorem closed_same {D : List (Int × Int)} {x : Int} (hv : Val D) (hx : St x) (hc : Closed D x) : roundD D x = x :=
  ins_antisymm (roundD_st hv hx) hx (roundD_min hv hx hx (ins_refl hx) hc) (roundD_up hv hx)

/-- how many columns -/
def card (x : Int) : Nat := ((List.range 5).filter fun (c : Nat) => hasc x c).length
theorem card_le (x : Int) : card x ≤ 5 := by
  unfold card
  have := List.length_filter_le (fun (c : Nat) => hasc x c) (List.range 5)
  simpa using this
theorem card_lt {x y : Int} (hx : St x) (hy : St y) (h : ins x y = true) (hne : x ≠ y) : card x < card y := by
  obtain ⟨n, hn, rfl⟩ := st_nat hx; obtain ⟨m, hm, rfl⟩ := st_nat hy
  have h' : ∀ n < 32, ∀ m < 32, ins (n : Nat) (m : Nat) = true → n ≠ m → card (n : Nat) < card (m : Nat) := by decide +kernel
  exact h' n hn m hm h (fun e => hne (by rw [e]))

theorem roundsD_st {D : List (Int × Int)} (hv : Val D) : ∀ (n : Nat) {x : Int}, St x → St (roundsD D n x)
  | 0, _, hx => hx
  | n + 1, _, hx => roundsD_st hv n (roundD_st hv hx)
theorem roundsD_up {D : List (Int × Int)} (hv : Val D) : ∀ (n : Nat) {x : Int}, St x → ins x (roundsD D n x) = true
  | 0, _, hx => ins_refl hx
  | n + 1, _, hx => ins_trans hx (roundD_st hv hx) (roundsD_st hv n (roundD_st hv hx)) (roundD_up hv hx) (roundsD_up hv n (roundD_st hv hx))
theorem roundsD_min {D : List (Int × Int)} (hv : Val D) : ∀ (n : Nat) {x z : Int}, St x → St z → ins x z = true → Closed D z → ins (roundsD D n x) z = true
  | 0, _, _, _, _, h, _ => h
  | n + 1, _, _, hx, hz, h, hc => roundsD_min hv n (roundD_st hv hx) hz (roundD_min hv hx hz h hc) hc
theorem roundsD_closed {D : List (Int × Int)} (hv : Val D) : ∀ (n : Nat) {x : Int}, St x → 6 ≤ n + card x → Closed D (roundsD D n x)
  | 0, x, hx, h => by have := card_le x; omega
  | n + 1, x, hx, h => by
    by_cases e : roundD D x = x
    · have hc := roundD_same hv hx e
      have hs : ∀ m, roundsD D m x = x := by
        intro m
        induction m with
        | zero => rfl
        | succ m ih => show roundsD D m (roundD D x) = x; rw [e]; exact ih
      rw [hs]; exact hc
    · exact roundsD_closed hv n (roundD_st hv hx) (by
        have := card_lt hx (roundD_st hv hx) (roundD_up hv hx) (fun h => e h.symm)
        omega)

theorem cloF_st {D : List (Int × Int)} {x : Int} (hv : Val D) (hx : St x) : St (cloF D x) := roundsD_st hv 6 hx
theorem cloF_up {D : List (Int × Int)} {x : Int} (hv : Val D) (hx : St x) : ins x (cloF D x) = true := roundsD_up hv 6 hx
theorem cloF_min {D : List (Int × Int)} {x z : Int} (hv : Val D) (hx : St x) (hz : St z) (h : ins x z = true) (hc : Closed D z) : ins (cloF D x) z = true := roundsD_min hv 6 hx hz h hc
theorem cloF_closed {D : List (Int × Int)} {x : Int} (hv : Val D) (hx : St x) : Closed D (cloF D x) := roundsD_closed hv 6 hx (by omega)
/-- The closure is known by what it does. -/
theorem cloF_unique {D : List (Int × Int)} {x y : Int} (hv : Val D) (hx : St x) (hy : St y) (hu : ins x y = true) (hc : Closed D y)
    (hm : ∀ z, St z → ins x z = true → Closed D z → ins y z = true) : y = cloF D x :=
  ins_antisymm hy (cloF_st hv hx) (hm _ (cloF_st hv hx) (cloF_up hv hx) (cloF_closed hv hx)) (cloF_min hv hx hy hu hc)
theorem cloF_same {D : List (Int × Int)} {x : Int} (hv : Val D) (hx : St x) (hc : Closed D x) : cloF D x = x :=
  (cloF_unique hv hx hx (ins_refl hx) hc fun z _ h _ => h).symm
end Go.Proofs.YtcenndlbhgfdfaaDoor
namespace Go.Proofs.YtcenndlbhgfdfaaDoor
open Go.RowKit
set_option linter.unusedVariables false
set_option maxRecDepth 100000

theorem Val.at_ {D : List (Int × Int)} (h : Val D) {k : Nat} (hk : k < D.length) : St (nl D k) ∧ Co (nr D k) :=
  h (nl D k, nr D k) (List.mem_iff_getElem?.2 ⟨k, dnth_eq hk⟩)
theorem closed_of {D : List (Int × Int)} {x : Int} (h : ∀ j, j < D.length → ins (nl D j) x = true → hasc x (nr D j) = true) : Closed D x := by
  intro d hd hi
  obtain ⟨k, hk⟩ := List.mem_iff_getElem?.1 hd
  have hlt : k < D.length := by
    rcases Nat.lt_or_ge k D.length with h | h
    · exact h
    · rw [List.getElem?_eq_none h] at hk; cases hk
  rw [dnth_eq hlt] at hk
  cases hk
  exact h k hlt hi
theorem Closed.at_ {D : List (Int × Int)} {x : Int} (h : Closed D x) {k : Nat} (hk : k < D.length) (hi : ins (nl D k) x = true) : hasc x (nr D k) = true :=
  h (nl D k, nr D k) (List.mem_iff_getElem?.2 ⟨k, dnth_eq hk⟩) hi

theorem drop_step {D : List (Int × Int)} {k : Nat} (hk : k < D.length) (y : Int) : roundD (D.drop k) y = roundD (D.drop (k + 1)) (stepD y (nl D k, nr D k)) := by
  have e : D.drop k = (nl D k, nr D k) :: D.drop (k + 1) := by
    rw [List.drop_eq_getElem_cons hk]
    congr 1
    have := dnth_eq hk
    rw [List.getElem?_eq_getElem hk] at this
    exact Option.some.inj this
  rw [e]; rfl

end Go.Proofs.YtcenndlbhgfdfaaDoor
namespace Go.Proofs.YtcenndlbhgfdfaaDoor
open Go.RowKit
set_option linter.unusedVariables false
set_option maxRecDepth 100000

def impF (D : List (Int × Int)) (l r : Int) : Bool := hasc (cloF D l) r
def closureOfF (n : Int) (D : List (Int × Int)) (s : Int) : Int := if areDepsF n D && isAttr n s then cloF D s else 0
def impliesDepF (n : Int) (D : List (Int × Int)) (l r : Int) : Bool := areDepsF n D && (isDepF n l r && impF D l r)

theorem isAttr_st {n x : Int} (h : isAttr n x = true) : St x ∧ 0 ≤ n ∧ n ≤ 5 := by
  simp only [isAttr, Bool.and_eq_true, decide_eq_true_eq] at h
  obtain ⟨⟨⟨h0, h5⟩, hx0⟩, hx⟩ := h
  have := (pow_wrap h0 h5).2.1
  exact ⟨⟨hx0, Int.lt_of_lt_of_le hx this⟩, h0, h5⟩
theorem isDepF_val {n l r : Int} (h : isDepF n l r = true) : (St l ∧ Co r) ∧ 1 ≤ n ∧ n ≤ 5 := by
  simp only [isDepF, Bool.and_eq_true, decide_eq_true_eq] at h
  obtain ⟨⟨⟨h1, ha⟩, h0⟩, hr⟩ := h
  have := isAttr_st ha
  exact ⟨⟨this.1, h0, by omega⟩, h1, this.2.2⟩
theorem areDepsF_val {n : Int} {D : List (Int × Int)} (h : areDepsF n D = true) : Val D ∧ 1 ≤ n ∧ n ≤ 5 ∧ D.length ≤ 20 := by
  simp only [areDepsF, Bool.and_eq_true, decide_eq_true_eq, List.all_eq_true] at h
  exact ⟨fun d hd => (isDepF_val (h.1 d hd)).1, h.2.1.1, h.2.1.2, h.2.2⟩
theorem co64 {r : Int} (h : Co r) : 0 ≤ r ∧ r < 64 := ⟨h.1, by have := h.2; omega⟩

theorem box_at (w : World) (c : Array Value) (T : TypeId) (j : Nat) (v : Value) (h : c[j]? = some v) : (w.alloc (.cells c T)).cell? ⟨w.heap.size, j, none⟩ = some v := by
  simp only [World.cell?, heap_alloc_new]; exact h

end Go.Proofs.YtcenndlbhgfdfaaDoor
namespace Go.Proofs.YtcenndlbhgfdfaaDoor
open Go.RowKit
set_option linter.unusedVariables false
set_option maxRecDepth 100000

/-- x & y == 0 -/
def apart (x y : Int) : Bool := bits BinOp.and .i64 x y == 0
def hitsF (L : List Int) (x : Int) : Bool := L.all fun e => !apart e x
def setsF (L : List Int) : Bool := L.all stB

theorem all_take_succ (p : Int → Bool) (L : List Int) (k : Nat) (hk : k < L.length) : (L.take (k + 1)).all p = ((L.take k).all p && p (nth L k)) := by
  rw [List.take_add_one, nth_eq hk]; simp
theorem all_false (p : Int → Bool) (L : List Int) (k : Nat) (hk : k < L.length) (h : p (nth L k) = false) : L.all p = false := by
  rw [List.all_eq_false]
  exact ⟨nth L k, List.mem_iff_getElem?.2 ⟨k, nth_eq hk⟩, by simp [h]⟩

theorem hits_same (L : List Int) (x : Int) : (L.all (fun e => stB e && !apart e x) && stB x) = (setsF L && (stB x && hitsF L x)) := by
  have h : ∀ L : List Int, L.all (fun e => stB e && !apart e x) = (setsF L && hitsF L x) := by
    intro L
    induction L with
    | nil => rfl
    | cons a L ih =>
      simp only [setsF, hitsF, List.all_cons] at ih ⊢
      rw [ih]
      cases stB a <;> cases apart a x <;> cases L.all stB <;> rfl
  rw [h]
  cases setsF L <;> cases hitsF L x <;> cases stB x <;> rfl
def hitsAllF (L : List Int) (x : Int) : Bool := setsF L && (stB x && hitsF L x)
end Go.Proofs.YtcenndlbhgfdfaaDoor
namespace Go.Proofs.YtcenndlbhgfdfaaDoor
open Go.RowKit
set_option linter.unusedVariables false
set_option maxRecDepth 100000

def rowOk (n : Int) (L : List Int) : Bool := L.all (fun v => inB v (-1) 40) && ((L.length : Int) == n)
def isTabF (n : Int) (R : List (List Int)) : Bool := R.all (rowOk n) && (decide (1 ≤ n) && decide (n ≤ 5) && decide (R.length ≤ 40))
def modeF (m : Int) : Bool := (m == 0) || (m == 1)
def eqCellF (m a b : Int) : Bool := modeF m && ((a == b) && ((m == 0) || (a != -1)))
def agreeStep (m : Int) (A B : List Int) (x : Int) (c : Nat) : Int := if eqCellF m (nth A c) (nth B c) then uni x (one c) else x
def agreeF (m : Int) (A B : List Int) : Int := (List.range A.length).foldl (agreeStep m A B) 0
theorem rall_take_succ (p : List Int → Bool) (R : List (List Int)) (k : Nat) (hk : k < R.length) : (R.take (k + 1)).all p = ((R.take k).all p && p (row R k)) := by
  rw [List.take_add_one, row_eq hk]; simp
theorem rall_false (p : List Int → Bool) (R : List (List Int)) (k : Nat) (hk : k < R.length) (h : p (row R k) = false) : R.all p = false := by
  rw [List.all_eq_false]
  exact ⟨row R k, row_mem hk, by simp [h]⟩
theorem range_succ_fold {α : Type} (f : α → Nat → α) (z : α) (k : Nat) : (List.range (k + 1)).foldl f z = f ((List.range k).foldl f z) k := by
  rw [List.range_succ, List.foldl_append]; rfl

theorem c_isRow (oa) (cap : Nat) (L : List Int) (n : Int) (w : World) (hL : IntsAt w oa L) :
    Ans Tryd.prog 51 #[.slice oa L.length cap, .int .i64 n] w (.bool (rowOk n L)) := by
  unfold Ans
  have hn : L.length ≤ 1073741824 := hL.len
  go_enter Tryd.func51, Tryd.ntmps51
  go_wp2
  go_loop [9] (fun i => ∃ k : Nat, i = .int .i64 k ∧ k ≤ L.length ∧ (L.take k).all (fun v => inB v (-1) 40) = true) (fun i => L.length - (intOf i).toNat)
  case atStart => exact ⟨0, rfl, Nat.zero_le _, by simp⟩
  case round =>
    obtain ⟨k, rfl, hk, hall⟩ := hrel
    have HA : Hid ((L.take k).all (fun v => inB v (-1) 40) = true) := hall
    clear hall
    by_cases hlt : k < L.length
    · obtain ⟨b, off, rfl, hbs, hc⟩ := hL.at_ (by omega)
      have hc1 := hc k hlt
      have HT : Hid ((L.take (k + 1)).all (fun v => inB v (-1) 40) = ((L.take k).all (fun v => inB v (-1) 40) && inB (nth L k) (-1) 40)) := all_take_succ _ L k hlt
      have HF : Hid (inB (nth L k) (-1) 40 = false → L.all (fun v => inB v (-1) 40) = false) := all_false (fun v => inB v (-1) 40) L k hlt
      clear hc
      generalize nth L k = v at *
      by_cases h1 : v < -1
      · have HX : Hid (inB v (-1) 40 = false) := by show inB v (-1) 40 = false; simp [inB]; omega
        go_wp2
        go_ret
        exact ⟨ret_bool (by unfold rowOk; rw [HF.out HX.out]; rfl), Below.refl _ _⟩
      by_cases h2 : 40 < v
      · have HX : Hid (inB v (-1) 40 = false) := by show inB v (-1) 40 = false; simp [inB]; omega
        go_wp2
        go_ret
        exact ⟨ret_bool (by unfold rowOk; rw [HF.out HX.out]; rfl), Below.refl _ _⟩
      · have HX : Hid (inB v (-1) 40 = true) := by show inB v (-1) 40 = true; simp [inB]; omega
        go_wp2
        go_round
        case rel => exact ⟨k + 1, by go_num, by omega, by rw [HT.out, HA.out, HX.out]; rfl⟩
        case measure => simp [intOf]; omega
    · have hkk : k = L.length := by omega
      have HS : Hid (L.all (fun v => inB v (-1) 40) = true) := by have := HA.out; rw [hkk, List.take_length] at this; exact this
      clear hkk
      go_wp2
      go_ret
      exact ⟨ret_bool (by unfold rowOk; rw [HS.out]; rfl), Below.refl _ _⟩
theorem c_l3Row (oa) (cap : Nat) (L : List Int) (n : Int) (w : World) (hL : IntsAt w oa L) :
    Ans Tryd.prog 39 #[.slice oa L.length cap, .int .i64 n] w (.bool (rowOk n L)) := by
  unfold Ans
  have hn : L.length ≤ 1073741824 := hL.len
  go_enter Tryd.func39, Tryd.ntmps39
  go_wp2
  go_loopw [5] (fun i wr => ∃ k : Nat, i = .int .i64 k ∧ k ≤ L.length ∧ (L.take k).all (fun v => inB v (-1) 40) = true ∧ Below w.heap.size w wr) (fun i _ => L.length - (intOf i).toNat)
  case atStart => exact ⟨0, rfl, Nat.zero_le _, by simp, Below.refl _ _⟩
  case round =>
    obtain ⟨k, rfl, hk, hall, hb⟩ := hrel
    have HA : Hid ((L.take k).all (fun v => inB v (-1) 40) = true) := hall
    clear hall
    by_cases hlt : k < L.length
    · obtain ⟨b, off, rfl, hbs, hc⟩ := hL.at_ (by omega)
      have hc1 := cell_keep (hc k hlt) hb
      have HT : Hid ((L.take (k + 1)).all (fun v => inB v (-1) 40) = ((L.take k).all (fun v => inB v (-1) 40) && inB (nth L k) (-1) 40)) := all_take_succ _ L k hlt
      have HF : Hid (inB (nth L k) (-1) 40 = false → L.all (fun v => inB v (-1) 40) = false) := all_false (fun v => inB v (-1) 40) L k hlt
      clear hc
      generalize nth L k = v at *
      cases hin : inB v (-1) 40
      · go_wp2_with (first | (go_at_call 40; refine Calls.mono (Ans.eqb (c_l1In _ _ _ _) hin) ?_; rintro e w1 ⟨rfl, hbn⟩; replace hb := bel_to (w := w) (by first | exact hb | exact hb.alloc hb.size _ | exact (hb.alloc hb.size _).alloc (Nat.le_trans hb.size (by simp)) _ | exact hb.setCell (by simp [hb.size]) _) hbn; clear hbn))
        go_ret
        exact ⟨ret_bool (by unfold rowOk; rw [HF.out hin]; rfl), hb⟩
      · go_wp2_with (first | (go_at_call 40; refine Calls.mono (Ans.eqb (c_l1In _ _ _ _) hin) ?_; rintro e w1 ⟨rfl, hbn⟩; replace hb := bel_to (w := w) (by first | exact hb | exact hb.alloc hb.size _ | exact (hb.alloc hb.size _).alloc (Nat.le_trans hb.size (by simp)) _ | exact hb.setCell (by simp [hb.size]) _) hbn; clear hbn))
        go_roundw
        case rel => exact ⟨k + 1, by go_num, by omega, by rw [HT.out, HA.out, hin]; rfl, hb⟩
        case measure => simp [intOf]; omega
    · have hkk : k = L.length := by omega
      have HS : Hid (L.all (fun v => inB v (-1) 40) = true) := by have := HA.out; rw [hkk, List.take_length] at this; exact this
      clear hkk
      go_wp2
      go_ret
      exact ⟨ret_bool (by unfold rowOk; rw [HS.out]; rfl), hb⟩
theorem c_isMode (m : Int) (w : World) : Ans Tryd.prog 27 #[.int .i64 m] w (.bool (modeF m)) := by
  unfold Ans modeF
  go_enter Tryd.func27, Tryd.ntmps27
  cases h0 : (m == 0)
  · go_wp2
    go_ret
    exact ⟨rfl, Below.refl _ _⟩
  · go_wp2
    go_ret
    exact ⟨rfl, Below.refl _ _⟩
theorem c_l4Mode (m : Int) (w : World) : Ans Tryd.prog 54 #[.int .i64 m] w (.bool (modeF m)) := by
  unfold Ans modeF
  go_enter Tryd.func54, Tryd.ntmps54
  cases h0 : (m == 0)
  · go_wp2
    go_ret
    exact ⟨rfl, Below.refl _ _⟩
  · go_wp2
    go_ret
    exact ⟨rfl, Below.refl _ _⟩
theorem c_EqualCells (m a b : Int) (w : World) : Ans Tryd.prog 71 #[.int .i64 m, .int .i64 a, .int .i64 b] w (.bool (eqCellF m a b)) := by
  unfold Ans eqCellF
  have hb := Below.refl w.heap.size w
  go_enter Tryd.func71, Tryd.ntmps71
  cases hm : modeF m
  · go_wp2_with (first | (go_at_call 27; refine Calls.mono (Ans.eqb (c_isMode _ _) hm) ?_; rintro e w1 ⟨rfl, hbn⟩; replace hb := bel_to (w := w) (by first | exact hb | exact hb.alloc hb.size _ | exact (hb.alloc hb.size _).alloc (Nat.le_trans hb.size (by simp)) _ | exact hb.setCell (by simp [hb.size]) _) hbn; clear hbn))
    go_ret
    exact ⟨rfl, hb⟩
  · cases hab : (a == b)
    · go_wp2_with (first | (go_at_call 27; refine Calls.mono (Ans.eqb (c_isMode _ _) hm) ?_; rintro e w1 ⟨rfl, hbn⟩; replace hb := bel_to (w := w) (by first | exact hb | exact hb.alloc hb.size _ | exact (hb.alloc hb.size _).alloc (Nat.le_trans hb.size (by simp)) _ | exact hb.setCell (by simp [hb.size]) _) hbn; clear hbn))
      go_ret
      exact ⟨rfl, hb⟩
    · cases h0 : (m == 0)
      · go_wp2_with (first | (go_at_call 27; refine Calls.mono (Ans.eqb (c_isMode _ _) hm) ?_; rintro e w1 ⟨rfl, hbn⟩; replace hb := bel_to (w := w) (by first | exact hb | exact hb.alloc hb.size _ | exact (hb.alloc hb.size _).alloc (Nat.le_trans hb.size (by simp)) _ | exact hb.setCell (by simp [hb.size]) _) hbn; clear hbn))
        go_ret
        exact ⟨rfl, hb⟩
      · go_wp2_with (first | (go_at_call 27; refine Calls.mono (Ans.eqb (c_isMode _ _) hm) ?_; rintro e w1 ⟨rfl, hbn⟩; replace hb := bel_to (w := w) (by first | exact hb | exact hb.alloc hb.size _ | exact (hb.alloc hb.size _).alloc (Nat.le_trans hb.size (by simp)) _ | exact hb.setCell (by simp [hb.size]) _) hbn; clear hbn))
        go_ret
        exact ⟨rfl, hb⟩
theorem c_specEqualCells (m a b : Int) (w : World) : Ans Tryd.prog 72 #[.int .i64 m, .int .i64 a, .int .i64 b] w (.bool (eqCellF m a b)) := by
  unfold Ans eqCellF
  have hb := Below.refl w.heap.size w
  go_enter Tryd.func72, Tryd.ntmps72
  cases hm : modeF m
  · go_wp2_with (first | (go_at_call 54; refine Calls.mono (Ans.eqb (c_l4Mode _ _) hm) ?_; rintro e w1 ⟨rfl, hbn⟩; replace hb := bel_to (w := w) (by first | exact hb | exact hb.alloc hb.size _ | exact (hb.alloc hb.size _).alloc (Nat.le_trans hb.size (by simp)) _ | exact hb.setCell (by simp [hb.size]) _) hbn; clear hbn))
    go_ret
    exact ⟨rfl, hb⟩
  · cases hab : (a == b)
    · go_wp2_with (first | (go_at_call 54; refine Calls.mono (Ans.eqb (c_l4Mode _ _) hm) ?_; rintro e w1 ⟨rfl, hbn⟩; replace hb := bel_to (w := w) (by first | exact hb | exact hb.alloc hb.size _ | exact (hb.alloc hb.size _).alloc (Nat.le_trans hb.size (by simp)) _ | exact hb.setCell (by simp [hb.size]) _) hbn; clear hbn))
      go_ret
      exact ⟨rfl, hb⟩
    · cases h0 : (m == 0)
      · go_wp2_with (first | (go_at_call 54; refine Calls.mono (Ans.eqb (c_l4Mode _ _) hm) ?_; rintro e w1 ⟨rfl, hbn⟩; replace hb := bel_to (w := w) (by first | exact hb | exact hb.alloc hb.size _ | exact (hb.alloc hb.size _).alloc (Nat.le_trans hb.size (by simp)) _ | exact hb.setCell (by simp [hb.size]) _) hbn; clear hbn))
        go_ret
        exact ⟨rfl, hb⟩
      · go_wp2_with (first | (go_at_call 54; refine Calls.mono (Ans.eqb (c_l4Mode _ _) hm) ?_; rintro e w1 ⟨rfl, hbn⟩; replace hb := bel_to (w := w) (by first | exact hb | exact hb.alloc hb.size _ | exact (hb.alloc hb.size _).alloc (Nat.le_trans hb.size (by simp)) _ | exact hb.setCell (by simp [hb.size]) _) hbn; clear hbn))
        go_ret
        exact ⟨rfl, hb⟩
end Go.Proofs.YtcenndlbhgfdfaaDoor
namespace Go.Proofs.YtcenndlbhgfdfaaDoor
open Go.RowKit
set_option linter.unusedVariables false
set_option maxRecDepth 100000

theorem isTab_of {n : Int} {R : List (List Int)} (h : isTabF n R = true) : 1 ≤ n ∧ n ≤ 5 ∧ R.length ≤ 40 ∧ ∀ k, k < R.length → ((row R k).length : Int) = n := by
  unfold isTabF at h
  simp only [Bool.and_eq_true, decide_eq_true_eq] at h
  refine ⟨h.2.1.1, h.2.1.2, h.2.2, fun k hk => ?_⟩
  have := List.all_eq_true.1 h.1 _ (row_mem hk)
  unfold rowOk at this
  simp only [Bool.and_eq_true, beq_iff_eq] at this
  exact this.2
theorem c_IsTable (n : Int) (oa) (cap : Nat) (R : List (List Int)) (w : World) (hR : RowsAt w oa R) :
    Ans Tryd.prog 26 #[.agg #[.int .i64 n, .slice oa R.length cap]] w (.bool (isTabF n R)) := by
  unfold Ans
  have hn : R.length ≤ 1073741824 := hR.len
  have hb := (Below.refl w.heap.size w).alloc (Nat.le_refl _) (.cells #[.int .i64 n, .slice oa R.length cap] 26)
  have b0 := box_at w #[.int .i64 n, .slice oa R.length cap] 26 0 _ rfl
  have b1 := box_at w #[.int .i64 n, .slice oa R.length cap] 26 1 _ rfl
  by_cases h1 : n < 1
  · go_enter Tryd.func26, Tryd.ntmps26
    go_wp2
    go_ret
    exact ⟨ret_bool (by unfold isTabF; rw [decide_eq_false (show ¬ (1 ≤ n) by omega)]; simp), hb⟩
  by_cases h5 : 5 < n
  · go_enter Tryd.func26, Tryd.ntmps26
    go_wp2
    go_ret
    exact ⟨ret_bool (by unfold isTabF; rw [decide_eq_false (show ¬ (n ≤ 5) by omega)]; simp), hb⟩
  by_cases h40 : 40 < R.length
  · go_enter Tryd.func26, Tryd.ntmps26
    go_wp2
    go_ret
    exact ⟨ret_bool (by unfold isTabF; rw [decide_eq_false (show ¬ (R.length ≤ 40) by omega)]; simp), hb⟩
  have HB : Hid (∀ b, R.all (rowOk n) = b → isTabF n R = b) := fun b h => by
    unfold isTabF; rw [h, decide_eq_true (show 1 ≤ n by omega), decide_eq_true (show n ≤ 5 by omega), decide_eq_true (show R.length ≤ 40 by omega)]; simp
  go_enter Tryd.func26, Tryd.ntmps26
  go_wp2
  go_loopw [22] (fun i wr => ∃ k : Nat, i = .int .i64 k ∧ k ≤ R.length ∧ (R.take k).all (rowOk n) = true ∧ wr.cell? ⟨w.heap.size, 0, none⟩ = some (.int .i64 n) ∧ Below w.heap.size w wr) (fun i _ => R.length - (intOf i).toNat)
  case atStart => exact ⟨0, rfl, Nat.zero_le _, by simp, b0, hb⟩
  case round =>
    clear b0 b1 hb
    obtain ⟨k, rfl, hk, hall, b0, hb⟩ := hrel
    have HA : Hid ((R.take k).all (rowOk n) = true) := hall
    clear hall
    by_cases hlt : k < R.length
    · obtain ⟨b, off, rfl, hbs, hc⟩ := hR.at_ (by omega)
      obtain ⟨o, c, h1', hr⟩ := hc k hlt
      have hc1 := cell_keep h1' hb
      have HT : Hid ((R.take (k + 1)).all (rowOk n) = ((R.take k).all (rowOk n) && rowOk n (row R k))) := rall_take_succ _ R k hlt
      have HF : Hid (rowOk n (row R k) = false → R.all (rowOk n) = false) := rall_false _ R k hlt
      clear hc h1'
      generalize row R k = L at *
      cases hok : rowOk n L
      · go_wp2_with (first | (go_at_call 51; refine Calls.mono (Ans.eqb (c_isRow _ _ _ _ _ (hr.keep hb)) hok) ?_; rintro e w1 ⟨rfl, hbn⟩; replace b0 := cell_keep b0 hbn; replace hb := bel_to (w := w) (by first | exact hb | exact hb.alloc hb.size _ | exact (hb.alloc hb.size _).alloc (Nat.le_trans hb.size (by simp)) _ | exact hb.setCell (by simp [hb.size]) _) hbn; clear hbn))
        go_ret
        exact ⟨ret_bool (HB.out _ (HF.out hok)).symm, hb⟩
      · go_wp2_with (first | (go_at_call 51; refine Calls.mono (Ans.eqb (c_isRow _ _ _ _ _ (hr.keep hb)) hok) ?_; rintro e w1 ⟨rfl, hbn⟩; replace b0 := cell_keep b0 hbn; replace hb := bel_to (w := w) (by first | exact hb | exact hb.alloc hb.size _ | exact (hb.alloc hb.size _).alloc (Nat.le_trans hb.size (by simp)) _ | exact hb.setCell (by simp [hb.size]) _) hbn; clear hbn))
        go_roundw
        case rel => exact ⟨k + 1, by go_num, by omega, by rw [HT.out, HA.out, hok]; rfl, b0, hb⟩
        case measure => simp [intOf]; omega
    · have hkk : k = R.length := by omega
      have HS : Hid (R.all (rowOk n) = true) := by have := HA.out; rw [hkk, List.take_length] at this; exact this
      clear hkk
      go_wp2
      go_ret
      exact ⟨ret_bool (HB.out _ HS.out).symm, hb⟩
theorem c_specIsTable (n : Int) (oa) (cap : Nat) (R : List (List Int)) (w : World) (hR : RowsAt w oa R) :
    Ans Tryd.prog 11 #[.agg #[.int .i64 n, .slice oa R.length cap]] w (.bool (isTabF n R)) := by
  unfold Ans
  have hn : R.length ≤ 1073741824 := hR.len
  have hb := (Below.refl w.heap.size w).alloc (Nat.le_refl _) (.cells #[.int .i64 n, .slice oa R.length cap] 26)
  have b0 := box_at w #[.int .i64 n, .slice oa R.length cap] 26 0 _ rfl
  have b1 := box_at w #[.int .i64 n, .slice oa R.length cap] 26 1 _ rfl
  go_enter Tryd.func11, Tryd.ntmps11
  go_wp2
  go_loopw [3] (fun i wr => ∃ k : Nat, i = .int .i64 k ∧ k ≤ R.length ∧ (R.take k).all (rowOk n) = true ∧ wr.cell? ⟨w.heap.size, 0, none⟩ = some (.int .i64 n) ∧ wr.cell? ⟨w.heap.size, 1, none⟩ = some (.slice oa R.length cap) ∧ Below w.heap.size w wr) (fun i _ => R.length - (intOf i).toNat)
  case atStart => exact ⟨0, rfl, Nat.zero_le _, by simp, b0, b1, hb⟩
  case round =>
    clear b0 b1 hb
    obtain ⟨k, rfl, hk, hall, b0, b1, hb⟩ := hrel
    have HA : Hid ((R.take k).all (rowOk n) = true) := hall
    clear hall
    by_cases hlt : k < R.length
    · obtain ⟨b, off, rfl, hbs, hc⟩ := hR.at_ (by omega)
      obtain ⟨o, c, h1', hr⟩ := hc k hlt
      have hc1 := cell_keep h1' hb
      have hx := fun (x : After wr) => (hr.keep hb).keep x.bel
      have HT : Hid ((R.take (k + 1)).all (rowOk n) = ((R.take k).all (rowOk n) && rowOk n (row R k))) := rall_take_succ _ R k hlt
      have HF : Hid (rowOk n (row R k) = false → R.all (rowOk n) = false) := rall_false _ R k hlt
      clear hc h1'
      generalize row R k = L at *
      cases hok : rowOk n L
      · go_wp2_with fail
        (refine wp_region_after (by kernel_rfl) (by kernel_rfl) ?_; have q_b0 := fun (x : After _) => cell_keep b0 x.bel; have q_b1 := fun (x : After _) => cell_keep b1 x.bel; have q_hc1 := fun (x : After _) => cell_keep hc1 x.bel; (repeat (go_big_quiet_step ((first | (go_at_call 39; exact Ans.after (Ans.eqb (c_l3Row _ _ _ _ _ (hx _)) hok)))))); clear q_b0; clear q_b1; clear q_hc1; refine wpQuiet_nil ?_; rintro _ ⟨⟨w1, hbn⟩, rfl⟩; (try simp only [After.w]); replace b0 := cell_keep b0 hbn; replace b1 := cell_keep b1 hbn; replace hc1 := cell_keep hc1 hbn; replace hb := bel_to (w := w) (by first | exact hb | exact hb.alloc hb.size _ | exact (hb.alloc hb.size _).alloc (Nat.le_trans hb.size (by simp)) _ | exact hb.setCell (by simp [hb.size]) _) hbn; clear hbn)
        go_wp2
        go_ret
        exact ⟨ret_bool (by unfold isTabF; rw [HF.out hok]; rfl), hb⟩
      · go_wp2_with fail
        (refine wp_region_after (by kernel_rfl) (by kernel_rfl) ?_; have q_b0 := fun (x : After _) => cell_keep b0 x.bel; have q_b1 := fun (x : After _) => cell_keep b1 x.bel; have q_hc1 := fun (x : After _) => cell_keep hc1 x.bel; (repeat (go_big_quiet_step ((first | (go_at_call 39; exact Ans.after (Ans.eqb (c_l3Row _ _ _ _ _ (hx _)) hok)))))); clear q_b0; clear q_b1; clear q_hc1; refine wpQuiet_nil ?_; rintro _ ⟨⟨w1, hbn⟩, rfl⟩; (try simp only [After.w]); replace b0 := cell_keep b0 hbn; replace b1 := cell_keep b1 hbn; replace hc1 := cell_keep hc1 hbn; replace hb := bel_to (w := w) (by first | exact hb | exact hb.alloc hb.size _ | exact (hb.alloc hb.size _).alloc (Nat.le_trans hb.size (by simp)) _ | exact hb.setCell (by simp [hb.size]) _) hbn; clear hbn)
        go_wp2
        go_roundw
        case rel => exact ⟨k + 1, by go_num, by omega, by rw [HT.out, HA.out, hok]; rfl, b0, b1, hb⟩
        case measure => simp [intOf]; omega
    · have hkk : k = R.length := by omega
      have HS : Hid (R.all (rowOk n) = true) := by have := HA.out; rw [hkk, List.take_length] at this; exact this
      clear hkk
      cases hin : inB n 1 5
      · go_wp2_with (first | (go_at_call 40; refine Calls.mono (Ans.eqb (c_l1In _ _ _ _) hin) ?_; rintro e w1 ⟨rfl, hbn⟩; replace b1 := cell_keep b1 hbn; replace hb := bel_to (w := w) (by first | exact hb | exact hb.alloc hb.size _ | exact (hb.alloc hb.size _).alloc (Nat.le_trans hb.size (by simp)) _ | exact hb.setCell (by simp [hb.size]) _) hbn; clear hbn))
        go_ret
        exact ⟨ret_bool (by unfold inB at hin; unfold isTabF; rw [HS.out, hin]; rfl), hb⟩
      · go_wp2_with (first | (go_at_call 40; refine Calls.mono (Ans.eqb (c_l1In _ _ _ _) hin) ?_; rintro e w1 ⟨rfl, hbn⟩; replace b1 := cell_keep b1 hbn; replace hb := bel_to (w := w) (by first | exact hb | exact hb.alloc hb.size _ | exact (hb.alloc hb.size _).alloc (Nat.le_trans hb.size (by simp)) _ | exact hb.setCell (by simp [hb.size]) _) hbn; clear hbn))
        go_ret
        exact ⟨ret_bool (by unfold inB at hin; unfold isTabF; rw [HS.out, hin, Bool.true_and, Bool.true_and, decide_eq_decide]; omega), hb⟩
theorem c_l4Fine (n : Int) (oa) (cap : Nat) (R : List (List Int)) (m : Int) (w : World) (hR : RowsAt w oa R) :
    Ans Tryd.prog 33 #[.agg #[.int .i64 n, .slice oa R.length cap], .int .i64 m] w (.bool (isTabF n R && modeF m)) := by
  unfold Ans
  have hb := (Below.refl w.heap.size w).alloc (Nat.le_refl _) (.cells #[.int .i64 n, .slice oa R.length cap] 26)
  go_enter Tryd.func33, Tryd.ntmps33
  cases ht : isTabF n R
  · go_wp2_with (first | (go_at_call 11; refine Calls.mono (Ans.eqb (c_specIsTable _ _ _ _ _ (hR.keep hb)) ht) ?_; rintro e w1 ⟨rfl, hbn⟩; replace hb := bel_to (w := w) (by first | exact hb | exact hb.alloc hb.size _ | exact (hb.alloc hb.size _).alloc (Nat.le_trans hb.size (by simp)) _ | exact hb.setCell (by simp [hb.size]) _) hbn; clear hbn))
    go_ret
    exact ⟨rfl, hb⟩
  · go_wp2_with (first | (go_at_call 11; refine Calls.mono (Ans.eqb (c_specIsTable _ _ _ _ _ (hR.keep hb)) ht) ?_; rintro e w1 ⟨rfl, hbn⟩; replace hb := bel_to (w := w) (by first | exact hb | exact hb.alloc hb.size _ | exact (hb.alloc hb.size _).alloc (Nat.le_trans hb.size (by simp)) _ | exact hb.setCell (by simp [hb.size]) _) hbn; clear hbn) | (go_at_call 54; refine Calls.mono (c_l4Mode _ _) ?_; rintro e w1 ⟨rfl, hbn⟩; replace hb := bel_to (w := w) (by first | exact hb | exact hb.alloc hb.size _ | exact (hb.alloc hb.size _).alloc (Nat.le_trans hb.size (by simp)) _ | exact hb.setCell (by simp [hb.size]) _) hbn; clear hbn))
    go_ret
    exact ⟨rfl, hb⟩
set_option maxHeartbeats 400000 in
theorem c_agree (m : Int) (oa ob) (ca cb : Nat) (A B : List Int) (w : World) (hA : IntsAt w oa A) (hB : IntsAt w ob B) (hl : A.length ≤ 5) (hAB : B.length = A.length) :
    Ans Tryd.prog 53 #[.int .i64 m, .slice oa A.length ca, .slice ob B.length cb] w (.int .i64 (agreeF m A B)) := by
  unfold Ans
  have HL : Hid (B.length = A.length) := hAB
  have hlb : A.length ≤ B.length := by omega
  clear hAB
  go_enter Tryd.func53, Tryd.ntmps53
  go_wp2
  go_loopw [7, 11] (fun x i wr => ∃ k : Nat, i = .int .i64 k ∧ k ≤ A.length ∧ x = .int .i64 ((List.range k).foldl (agreeStep m A B) 0) ∧ Below w.heap.size w wr) (fun _ i _ => A.length - (intOf i).toNat)
  case atStart => exact ⟨0, rfl, Nat.zero_le _, rfl, Below.refl _ _⟩
  case round =>
    obtain ⟨k, rfl, hk, rfl, hb⟩ := hrel
    by_cases hlt : k < A.length
    · obtain ⟨b1, off1, rfl, hbs1, hca⟩ := hA.at_ (by omega)
      obtain ⟨b2, off2, rfl, hbs2, hcb⟩ := hB.at_ (by omega)
      have hc1 := cell_keep (hca k hlt) hb
      have hc2 := cell_keep (hcb k (by omega)) hb
      have HS : Hid ((List.range (k + 1)).foldl (agreeStep m A B) 0 = agreeStep m A B ((List.range k).foldl (agreeStep m A B) 0) k) := range_succ_fold _ _ _
      have HG : Hid (∀ x, agreeStep m A B x k = if eqCellF m (nth A k) (nth B k) then uni x (one k) else x) := fun x => rfl
      clear hca hcb
      generalize (List.range k).foldl (agreeStep m A B) 0 = x at *
      generalize nth A k = a at *
      generalize nth B k = b at *
      cases he : eqCellF m a b
      · go_wp2_with fail
        (refine wp_region_after (by kernel_rfl) (by kernel_rfl) ?_; have q_hc1 := fun (x : After _) => cell_keep hc1 x.bel; have q_hc2 := fun (x : After _) => cell_keep hc2 x.bel; (repeat (go_big_quiet_step ((first | (go_at_call 71; exact Ans.after (Ans.eqb (c_EqualCells _ _ _ _) he)))))); clear q_hc1; clear q_hc2; refine wpQuiet_nil ?_; rintro _ ⟨⟨w1, hbn⟩, rfl⟩; (try simp only [After.w]); replace hc1 := cell_keep hc1 hbn; replace hc2 := cell_keep hc2 hbn; replace hb := bel_to (w := w) (by first | exact hb | exact hb.alloc hb.size _ | exact (hb.alloc hb.size _).alloc (Nat.le_trans hb.size (by simp)) _ | exact hb.setCell (by simp [hb.size]) _) hbn; clear hbn)
        go_wp2
        go_roundw
        case rel => exact ⟨k + 1, by go_num, by omega, by rw [HS.out, HG.out, he]; rfl, hb⟩
        case measure => simp [intOf]; omega
      · go_wp2_with fail
        (refine wp_region_after (by kernel_rfl) (by kernel_rfl) ?_; have q_hc1 := fun (x : After _) => cell_keep hc1 x.bel; have q_hc2 := fun (x : After _) => cell_keep hc2 x.bel; (repeat (go_big_quiet_step ((first | (go_at_call 71; exact Ans.after (Ans.eqb (c_EqualCells _ _ _ _) he)))))); clear q_hc1; clear q_hc2; refine wpQuiet_nil ?_; rintro _ ⟨⟨w1, hbn⟩, rfl⟩; (try simp only [After.w]); replace hc1 := cell_keep hc1 hbn; replace hc2 := cell_keep hc2 hbn; replace hb := bel_to (w := w) (by first | exact hb | exact hb.alloc hb.size _ | exact (hb.alloc hb.size _).alloc (Nat.le_trans hb.size (by simp)) _ | exact hb.setCell (by simp [hb.size]) _) hbn; clear hbn)
        go_wp2
        go_roundw
        case rel => exact ⟨k + 1, by go_num, by omega, by rw [HS.out, HG.out, he]; rfl, hb⟩
        case measure => simp [intOf]; omega
    · have hkk : k = A.length := by omega
      have HK : Hid (k = A.length) := hkk
      clear hkk
      go_wp2
      go_ret
      exact ⟨ret_int (by rw [HK.out]; rfl), hb⟩
set_option maxHeartbeats 800000 in
theorem c_l4Agree (n : Int) (oa) (ca : Nat) (R : List (List Int)) (m : Int) (i j : Nat) (w : World) (hR : RowsAt w oa R) (ht : isTabF n R = true) (hi : i < R.length) (hj : j < R.length) :
    Ans Tryd.prog 56 #[.agg #[.int .i64 n, .slice oa R.length ca], .int .i64 m, .int .i64 i, .int .i64 j] w (.int .i64 (agreeF m (row R i) (row R j))) := by
  unfold Ans
  obtain ⟨hn1, hn5, hr40, hlen⟩ := isTab_of ht
  have li := hlen i hi
  have lj := hlen j hj
  clear hlen ht
  obtain ⟨b, off, rfl, hbs, hca⟩ := hR.at_ (by omega)
  obtain ⟨o1, c1, h1, r1⟩ := hca i hi
  obtain ⟨o2, c2, h2, r2⟩ := hca j hj
  clear hca hR
  have HN : Hid (n = (row R i).length) := li.symm
  have HF : Hid (agreeF m (row R i) (row R j) = (List.range (row R i).length).foldl (agreeStep m (row R i) (row R j)) 0) := rfl
  have hAB : (row R j).length = (row R i).length := by omega
  generalize row R i = A at *
  generalize row R j = B at *
  have hA5 : A.length ≤ 5 := by omega
  have HL : Hid (B.length = A.length) := hAB
  have hlb : A.length ≤ B.length := by omega
  obtain rfl : n = (A.length : Int) := by omega
  clear hAB li lj HN
  have hb := (Below.refl w.heap.size w).alloc (Nat.le_refl _) (.cells #[.int .i64 A.length, .slice (some ⟨b, off, none⟩) R.length ca] 26)
  have b0 := box_at w #[.int .i64 A.length, .slice (some ⟨b, off, none⟩) R.length ca] 26 0 _ rfl
  have b1 := box_at w #[.int .i64 A.length, .slice (some ⟨b, off, none⟩) R.length ca] 26 1 _ rfl
  go_enter Tryd.func56, Tryd.ntmps56
  go_wp2
  go_loopw [9, 10] (fun x i wr => ∃ k : Nat, i = .int .i64 k ∧ k ≤ A.length ∧ x = .int .i64 ((List.range k).foldl (agreeStep m A B) 0) ∧ wr.cell? ⟨w.heap.size, 0, none⟩ = some (.int .i64 A.length) ∧ wr.cell? ⟨w.heap.size, 1, none⟩ = some (.slice (some ⟨b, off, none⟩) R.length ca) ∧ Below w.heap.size w wr) (fun _ i _ => A.length - (intOf i).toNat)
  case atStart => exact ⟨0, rfl, Nat.zero_le _, rfl, b0, b1, hb⟩
  case round =>
    clear b0 b1 hb
    obtain ⟨k, rfl, hk, rfl, b0, b1, hb⟩ := hrel
    have d1 := cell_keep h1 hb
    have d2 := cell_keep h2 hb
    by_cases hlt : k < A.length
    · obtain ⟨b3, off3, rfl, hbs3, hca⟩ := r1.at_ (by omega)
      obtain ⟨b4, off4, rfl, hbs4, hcb⟩ := r2.at_ (by omega)
      have hc1 := cell_keep (hca k hlt) hb
      have hc2 := cell_keep (hcb k (by omega)) hb
      have HS : Hid ((List.range (k + 1)).foldl (agreeStep m A B) 0 = agreeStep m A B ((List.range k).foldl (agreeStep m A B) 0) k) := range_succ_fold _ _ _
      have HG : Hid (∀ x, agreeStep m A B x k = if eqCellF m (nth A k) (nth B k) then uni x (one k) else x) := fun x => rfl
      clear hca hcb
      generalize (List.range k).foldl (agreeStep m A B) 0 = x at *
      generalize nth A k = a at *
      generalize nth B k = b' at *
      cases he : eqCellF m a b'
      · go_wp2_with fail
        (refine wp_region_after (by kernel_rfl) (by kernel_rfl) ?_; have q_b0 := fun (x : After _) => cell_keep b0 x.bel; have q_b1 := fun (x : After _) => cell_keep b1 x.bel; have q_d1 := fun (x : After _) => cell_keep d1 x.bel; have q_d2 := fun (x : After _) => cell_keep d2 x.bel; have q_hc1 := fun (x : After _) => cell_keep hc1 x.bel; have q_hc2 := fun (x : After _) => cell_keep hc2 x.bel; (repeat (go_big_quiet_step ((first | (go_at_call 72; exact Ans.after (Ans.eqb (c_specEqualCells _ _ _ _) he)))))); clear q_b0; clear q_b1; clear q_d1; clear q_d2; clear q_hc1; clear q_hc2; refine wpQuiet_nil ?_; rintro _ ⟨⟨w1, hbn⟩, rfl⟩; (try simp only [After.w]); replace b0 := cell_keep b0 hbn; replace b1 := cell_keep b1 hbn; replace d1 := cell_keep d1 hbn; replace d2 := cell_keep d2 hbn; replace hc1 := cell_keep hc1 hbn; replace hc2 := cell_keep hc2 hbn; replace hb := bel_to (w := w) (by first | exact hb | exact hb.alloc hb.size _ | exact (hb.alloc hb.size _).alloc (Nat.le_trans hb.size (by simp)) _ | exact hb.setCell (by simp [hb.size]) _) hbn; clear hbn)
        go_wp2
        go_roundw
        case rel => exact ⟨k + 1, by go_num, by omega, by rw [HS.out, HG.out, he]; rfl, b0, b1, hb⟩
        case measure => simp [intOf]; omega
      · go_wp2_with fail
        (refine wp_region_after (by kernel_rfl) (by kernel_rfl) ?_; have q_b0 := fun (x : After _) => cell_keep b0 x.bel; have q_b1 := fun (x : After _) => cell_keep b1 x.bel; have q_d1 := fun (x : After _) => cell_keep d1 x.bel; have q_d2 := fun (x : After _) => cell_keep d2 x.bel; have q_hc1 := fun (x : After _) => cell_keep hc1 x.bel; have q_hc2 := fun (x : After _) => cell_keep hc2 x.bel; (repeat (go_big_quiet_step ((first | (go_at_call 72; exact Ans.after (Ans.eqb (c_specEqualCells _ _ _ _) he)))))); clear q_b0; clear q_b1; clear q_d1; clear q_d2; clear q_hc1; clear q_hc2; refine wpQuiet_nil ?_; rintro _ ⟨⟨w1, hbn⟩, rfl⟩; (try simp only [After.w]); replace b0 := cell_keep b0 hbn; replace b1 := cell_keep b1 hbn; replace d1 := cell_keep d1 hbn; replace d2 := cell_keep d2 hbn; replace hc1 := cell_keep hc1 hbn; replace hc2 := cell_keep hc2 hbn; replace hb := bel_to (w := w) (by first | exact hb | exact hb.alloc hb.size _ | exact (hb.alloc hb.size _).alloc (Nat.le_trans hb.size (by simp)) _ | exact hb.setCell (by simp [hb.size]) _) hbn; clear hbn)
        go_wp2
        go_roundw
        case rel => exact ⟨k + 1, by go_num, by omega, by rw [HS.out, HG.out, he]; rfl, b0, b1, hb⟩
        case measure => simp [intOf]; omega
    · have hkk : k = A.length := by omega
      have HK : Hid (k = A.length) := hkk
      clear hkk
      go_wp2
      go_ret
      exact ⟨ret_int (by rw [HF.out, HK.out]), hb⟩
end Go.Proofs.YtcenndlbhgfdfaaDoor
namespace Go.Proofs.YtcenndlbhgfdfaaDoor
open Go.RowKit
set_option linter.unusedVariables false
set_option maxRecDepth 100000

theorem two_a (w : World) (c1 : Array Value) (T1 : TypeId) (c2 : Array Value) (T2 : TypeId) (j : Nat) (v : Value) (h : c1[j]? = some v) : ((w.alloc (.cells c1 T1)).alloc (.cells c2 T2)).cell? ⟨w.heap.size, j, none⟩ = some v :=
  cell_keep (box_at w c1 T1 j v h) ((Below.refl _ _).alloc (Nat.le_refl _) _)
theorem two_b (w : World) (c1 : Array Value) (T1 : TypeId) (c2 : Array Value) (T2 : TypeId) (j : Nat) (v : Value) (h : c2[j]? = some v) : ((w.alloc (.cells c1 T1)).alloc (.cells c2 T2)).cell? ⟨w.heap.size + 1, j, none⟩ = some v := by
  have := box_at (w.alloc (.cells c1 T1)) c2 T2 j v h
  simpa using this
theorem bel2 (w : World) (o1 o2 : Obj) : Below w.heap.size w ((w.alloc o1).alloc o2) := ((Below.refl w.heap.size w).alloc (Nat.le_refl _) o1).alloc (by simp) o2

def askF (n : Int) (R : List (List Int)) (m l r : Int) : Bool := (isTabF n R && modeF m) && isDepF n l r
def violF (R : List (List Int)) (m l r : Int) (i k : Nat) : Bool := ins l (agreeF m (row R i) (row R k)) && !hasc (agreeF m (row R i) (row R k)) r
def holdsF (R : List (List Int)) (m l r : Int) : Bool := decide (∀ i, i < R.length → ∀ k, k < R.length → i < k → violF R m l r i k = false)
theorem holdsF_no {R : List (List Int)} {m l r : Int} {i k : Nat} (hik : i < k) (hk : k < R.length) (h : violF R m l r i k = true) : holdsF R m l r = false := by
  unfold holdsF
  rw [decide_eq_false_iff_not]
  intro H
  have := H i (by omega) k hk hik
  rw [h] at this
  cases this
theorem dep_of {n l r : Int} (h : isDepF n l r = true) (h5 : n ≤ 5) : St l ∧ Co r := by
  unfold isDepF at h
  simp only [Bool.and_eq_true, decide_eq_true_eq] at h
  obtain ⟨⟨⟨h1, h2⟩, h3⟩, h4⟩ := h
  unfold isAttr at h2
  simp only [Bool.and_eq_true, decide_eq_true_eq] at h2
  have hp := (pow_wrap (n := n) (by omega) h5).2.1
  exact ⟨⟨h2.1.2, by omega⟩, ⟨h3, by omega⟩⟩
theorem agreeStep_st {m : Int} {A B : List Int} {x : Int} {c : Nat} (hx : St x) (hc : c < 5) : St (agreeStep m A B x c) := by
  unfold agreeStep
  split
  · exact uni_st hx (one_st ⟨by omega, by omega⟩)
  · exact hx
theorem agreeF_st {m : Int} {A B : List Int} (h : A.length ≤ 5) : St (agreeF m A B) := by
  have : ∀ k, k ≤ 5 → St ((List.range k).foldl (agreeStep m A B) 0) := by
    intro k
    induction k with
    | zero => intro _; exact ⟨by simp, by simp⟩
    | succ k ih => intro hk; rw [range_succ_fold]; exact agreeStep_st (ih (by omega)) (by omega)
  exact this _ h

theorem c_asked (n : Int) (oa) (cap : Nat) (R : List (List Int)) (m l r : Int) (w : World) (hR : RowsAt w oa R) :
    Ans Tryd.prog 44 #[.agg #[.int .i64 n, .slice oa R.length cap], .int .i64 m, .agg #[.int .i64 l, .int .i64 r]] w (.bool (askF n R m l r)) := by
  unfold Ans askF
  have hb := bel2 w (.cells #[.int .i64 n, .slice oa R.length cap] 26) (.cells #[.int .i64 l, .int .i64 r] 28)
  have a0 := two_a w #[.int .i64 n, .slice oa R.length cap] 26 #[.int .i64 l, .int .i64 r] 28 0 _ rfl
  have d0 := two_b w #[.int .i64 n, .slice oa R.length cap] 26 #[.int .i64 l, .int .i64 r] 28 0 _ rfl
  have d1 := two_b w #[.int .i64 n, .slice oa R.length cap] 26 #[.int .i64 l, .int .i64 r] 28 1 _ rfl
  go_enter Tryd.func44, Tryd.ntmps44
  cases ht : isTabF n R
  · go_wp2_with (first | (go_at_call 26; refine Calls.mono (Ans.eqb (c_IsTable _ _ _ _ _ (hR.keep hb)) ht) ?_; rintro e w1 ⟨rfl, hbn⟩; replace a0 := cell_keep a0 hbn; replace d0 := cell_keep d0 hbn; replace d1 := cell_keep d1 hbn; replace hb := bel_to (w := w) (by first | exact hb | exact hb.alloc hb.size _ | exact (hb.alloc hb.size _).alloc (Nat.le_trans hb.size (by simp)) _ | exact hb.setCell (by simp [hb.size]) _) hbn; clear hbn))
    go_ret
    exact ⟨rfl, hb⟩
  · cases hm : modeF m
    · go_wp2_with (first | (go_at_call 26; refine Calls.mono (Ans.eqb (c_IsTable _ _ _ _ _ (hR.keep hb)) ht) ?_; rintro e w1 ⟨rfl, hbn⟩; replace a0 := cell_keep a0 hbn; replace d0 := cell_keep d0 hbn; replace d1 := cell_keep d1 hbn; replace hb := bel_to (w := w) (by first | exact hb | exact hb.alloc hb.size _ | exact (hb.alloc hb.size _).alloc (Nat.le_trans hb.size (by simp)) _ | exact hb.setCell (by simp [hb.size]) _) hbn; clear hbn) | (go_at_call 27; refine Calls.mono (Ans.eqb (c_isMode _ _) hm) ?_; rintro e w1 ⟨rfl, hbn⟩; replace a0 := cell_keep a0 hbn; replace d0 := cell_keep d0 hbn; replace d1 := cell_keep d1 hbn; replace hb := bel_to (w := w) (by first | exact hb | exact hb.alloc hb.size _ | exact (hb.alloc hb.size _).alloc (Nat.le_trans hb.size (by simp)) _ | exact hb.setCell (by simp [hb.size]) _) hbn; clear hbn))
      go_ret
      exact ⟨rfl, hb⟩
    · go_wp2_with (first | (go_at_call 26; refine Calls.mono (Ans.eqb (c_IsTable _ _ _ _ _ (hR.keep hb)) ht) ?_; rintro e w1 ⟨rfl, hbn⟩; replace a0 := cell_keep a0 hbn; replace d0 := cell_keep d0 hbn; replace d1 := cell_keep d1 hbn; replace hb := bel_to (w := w) (by first | exact hb | exact hb.alloc hb.size _ | exact (hb.alloc hb.size _).alloc (Nat.le_trans hb.size (by simp)) _ | exact hb.setCell (by simp [hb.size]) _) hbn; clear hbn) | (go_at_call 27; refine Calls.mono (Ans.eqb (c_isMode _ _) hm) ?_; rintro e w1 ⟨rfl, hbn⟩; replace a0 := cell_keep a0 hbn; replace d0 := cell_keep d0 hbn; replace d1 := cell_keep d1 hbn; replace hb := bel_to (w := w) (by first | exact hb | exact hb.alloc hb.size _ | exact (hb.alloc hb.size _).alloc (Nat.le_trans hb.size (by simp)) _ | exact hb.setCell (by simp [hb.size]) _) hbn; clear hbn) | (go_at_call 63; refine Calls.mono (c_isDep _ _ _ _) ?_; rintro e w1 ⟨rfl, hbn⟩; replace a0 := cell_keep a0 hbn; replace d0 := cell_keep d0 hbn; replace d1 := cell_keep d1 hbn; replace hb := bel_to (w := w) (by first | exact hb | exact hb.alloc hb.size _ | exact (hb.alloc hb.size _).alloc (Nat.le_trans hb.size (by simp)) _ | exact hb.setCell (by simp [hb.size]) _) hbn; clear hbn))
      go_ret
      exact ⟨rfl, hb⟩

set_option maxHeartbeats 1600000 in
theorem c_WitnessOf (n : Int) (oa) (cap : Nat) (R : List (List Int)) (m l r : Int) (w : World) (hR : RowsAt w oa R) :
    Calls Tryd.prog 43 #[.agg #[.int .i64 n, .slice oa R.length cap], .int .i64 m, .agg #[.int .i64 l, .int .i64 r]] w fun e w' => (∃ x y : Int, e = .returned (.tuple #[.int .i64 x, .int .i64 y, .bool (askF n R m l r && !holdsF R m l r)])) ∧ Below w.heap.size w w' := by
  have hb := bel2 w (.cells #[.int .i64 n, .slice oa R.length cap] 26) (.cells #[.int .i64 l, .int .i64 r] 28)
  have a0 := two_a w #[.int .i64 n, .slice oa R.length cap] 26 #[.int .i64 l, .int .i64 r] 28 0 _ rfl
  have a1 := two_a w #[.int .i64 n, .slice oa R.length cap] 26 #[.int .i64 l, .int .i64 r] 28 1 _ rfl
  have d0 := two_b w #[.int .i64 n, .slice oa R.length cap] 26 #[.int .i64 l, .int .i64 r] 28 0 _ rfl
  have d1 := two_b w #[.int .i64 n, .slice oa R.length cap] 26 #[.int .i64 l, .int .i64 r] 28 1 _ rfl
  cases hask : askF n R m l r
  · go_enter Tryd.func43, Tryd.ntmps43
    go_wp2_with (first | (go_at_call 44; refine Calls.mono (Ans.eqb (c_asked _ _ _ _ _ _ _ _ (hR.keep hb)) hask) ?_; rintro e w1 ⟨rfl, hbn⟩; replace a0 := cell_keep a0 hbn; replace a1 := cell_keep a1 hbn; replace d0 := cell_keep d0 hbn; replace d1 := cell_keep d1 hbn; replace hb := bel_to (w := w) (by first | exact hb | exact hb.alloc hb.size _ | exact (hb.alloc hb.size _).alloc (Nat.le_trans hb.size (by simp)) _ | exact hb.setCell (by simp [hb.size]) _) hbn; clear hbn))
    go_ret3
    exact ⟨⟨_, _, rfl⟩, hb⟩
  · have hk := hask
    unfold askF at hk
    simp only [Bool.and_eq_true] at hk
    obtain ⟨⟨ht, hm⟩, hd⟩ := hk
    obtain ⟨hn1, hn5, hr40, hlen⟩ := isTab_of ht
    obtain ⟨hsl, hcr⟩ := dep_of hd hn5
    have hcr64 : 0 ≤ r ∧ r < 64 := ⟨hcr.1, by have := hcr.2; omega⟩
    have HL : Hid (∀ k, k < R.length → ((row R k).length : Int) = n) := hlen
    have HH : Hid ((∀ i, i < R.length → ∀ k, k < R.length → i < k → violF R m l r i k = false) → holdsF R m l r = true) := fun h => decide_eq_true h
    have HN : Hid (∀ i k, i < k → k < R.length → violF R m l r i k = true → holdsF R m l r = false) := fun i k h1 h2 h3 => holdsF_no h1 h2 h3
    clear hm ht hlen hcr hd
    go_enter Tryd.func43, Tryd.ntmps43
    go_wp2_with (first | (go_at_call 44; refine Calls.mono (Ans.eqb (c_asked _ _ _ _ _ _ _ _ (hR.keep hb)) hask) ?_; rintro e w1 ⟨rfl, hbn⟩; replace a0 := cell_keep a0 hbn; replace a1 := cell_keep a1 hbn; replace d0 := cell_keep d0 hbn; replace d1 := cell_keep d1 hbn; replace hb := bel_to (w := w) (by first | exact hb | exact hb.alloc hb.size _ | exact (hb.alloc hb.size _).alloc (Nat.le_trans hb.size (by simp)) _ | exact hb.setCell (by simp [hb.size]) _) hbn; clear hbn))
    go_loopw [21] (fun i wr => ∃ k : Nat, i = .int .i64 k ∧ k ≤ R.length ∧ (∀ i, i < k → ∀ k, k < R.length → i < k → violF R m l r i k = false) ∧ wr.cell? ⟨w.heap.size, 1, none⟩ = some (.slice oa R.length cap) ∧ wr.cell? ⟨w.heap.size + 1, 0, none⟩ = some (.int .i64 l) ∧ wr.cell? ⟨w.heap.size + 1, 1, none⟩ = some (.int .i64 r) ∧ Below w.heap.size w wr) (fun i _ => R.length - (intOf i).toNat)
    case atStart => exact ⟨0, rfl, Nat.zero_le _, fun i hi => absurd hi (by omega), a1, d0, d1, hb⟩
    case round =>
      clear a0 a1 d0 d1 hb
      obtain ⟨i, rfl, hi, hall, a1, d0, d1, hb⟩ := hrel
      have HA : Hid (∀ i', i' < i → ∀ k, k < R.length → i' < k → violF R m l r i' k = false) := hall
      clear hall
      by_cases hlt : i < R.length
      · obtain ⟨b, off, rfl, hbs, hca⟩ := hR.at_ (by omega)
        obtain ⟨o1, c1, e1, r1⟩ := hca i hlt
        have hc1 := cell_keep e1 hb
        have HC : Hid (∀ k, k < R.length → ∃ o c, w.cell? ⟨b, off + k, none⟩ = some (.slice o (row R k).length c) ∧ IntsAt w o (row R k)) := hca
        clear hca e1
        go_wp2
        go_loopw [11] (fun i' wr => ∃ k : Nat, i' = .int .i64 k ∧ i < k ∧ k ≤ R.length ∧ (∀ k', k' < k → i < k' → violF R m l r i k' = false) ∧ wr.cell? ⟨w.heap.size, 1, none⟩ = some (.slice (some ⟨b, off, none⟩) R.length cap) ∧ wr.cell? ⟨w.heap.size + 1, 0, none⟩ = some (.int .i64 l) ∧ wr.cell? ⟨w.heap.size + 1, 1, none⟩ = some (.int .i64 r) ∧ Below w.heap.size w wr) (fun i _ => R.length - (intOf i).toNat)
        case atStart => exact ⟨i + 1, by go_num, by omega, by omega, fun k' h1 h2 => absurd h1 (by omega), a1, d0, d1, hb⟩
        case round =>
          clear a1 d0 d1 hb hc1
          obtain ⟨k, rfl, hik, hk, hall, a1, d0, d1, hb⟩ := hrel
          have HI : Hid (∀ k', k' < k → i < k' → violF R m l r i k' = false) := hall
          clear hall
          by_cases hlk : k < R.length
          · obtain ⟨o2, c2, e2, r2⟩ := HC.out k hlk
            have hc2 := cell_keep e2 hb
            have hA5 : (row R i).length ≤ 5 := by have := HL.out i hlt; omega
            have hAB : Hid ((row R k).length = (row R i).length) := by have h1 := HL.out i hlt; have h2 := HL.out k hlk; show (row R k).length = (row R i).length; omega
            have HV : Hid (violF R m l r i k = (ins l (agreeF m (row R i) (row R k)) && !hasc (agreeF m (row R i) (row R k)) r)) := rfl
            clear e2
            go_wp2_with fail
            refine Calls.mono (c_agree m _ _ _ _ _ _ _ (r1.keep hb) (r2.keep hb) hA5 hAB.out) ?_
            rintro e w1 ⟨rfl, hbn⟩
            replace a1 := cell_keep a1 hbn
            replace d0 := cell_keep d0 hbn
            replace d1 := cell_keep d1 hbn
            replace hb := bel_to hb hbn
            clear hbn hc2 hAB hA5
            generalize agreeF m (row R i) (row R k) = x at *
            cases h1 : ins l x
            · go_wp2_with (first | (go_at_call 52; refine Calls.mono (Ans.eqb (c_inside _ _ _) h1) ?_; rintro e w1 ⟨rfl, hbn⟩; replace a1 := cell_keep a1 hbn; replace d0 := cell_keep d0 hbn; replace d1 := cell_keep d1 hbn; replace hb := bel_to (w := w) (by first | exact hb | exact hb.alloc hb.size _ | exact (hb.alloc hb.size _).alloc (Nat.le_trans hb.size (by simp)) _ | exact hb.setCell (by simp [hb.size]) _) hbn; clear hbn))
              go_roundw
              case rel => exact ⟨k + 1, by go_num, by omega, by omega, lt_step (p := fun k' => i < k' → violF R m l r i k' = false) HI.out (fun _ => by rw [HV.out, h1]; rfl), a1, d0, d1, hb⟩
              case measure => simp [intOf]; omega
            · cases h2 : hasc x r
              · go_wp2_with (first | (go_at_call 52; refine Calls.mono (Ans.eqb (c_inside _ _ _) h1) ?_; rintro e w1 ⟨rfl, hbn⟩; replace a1 := cell_keep a1 hbn; replace d0 := cell_keep d0 hbn; replace d1 := cell_keep d1 hbn; replace hb := bel_to (w := w) (by first | exact hb | exact hb.alloc hb.size _ | exact (hb.alloc hb.size _).alloc (Nat.le_trans hb.size (by simp)) _ | exact hb.setCell (by simp [hb.size]) _) hbn; clear hbn) | (go_at_call 62; refine Calls.mono (Ans.eqb (c_has _ _ hcr64 _) h2) ?_; rintro e w1 ⟨rfl, hbn⟩; replace a1 := cell_keep a1 hbn; replace d0 := cell_keep d0 hbn; replace d1 := cell_keep d1 hbn; replace hb := bel_to (w := w) (by first | exact hb | exact hb.alloc hb.size _ | exact (hb.alloc hb.size _).alloc (Nat.le_trans hb.size (by simp)) _ | exact hb.setCell (by simp [hb.size]) _) hbn; clear hbn))
                go_ret3
                exact ⟨⟨_, _, by rw [HN.out i k hik hlk (by rw [HV.out, h1, h2]; rfl)]; rfl⟩, hb⟩
              · go_wp2_with (first | (go_at_call 52; refine Calls.mono (Ans.eqb (c_inside _ _ _) h1) ?_; rintro e w1 ⟨rfl, hbn⟩; replace a1 := cell_keep a1 hbn; replace d0 := cell_keep d0 hbn; replace d1 := cell_keep d1 hbn; replace hb := bel_to (w := w) (by first | exact hb | exact hb.alloc hb.size _ | exact (hb.alloc hb.size _).alloc (Nat.le_trans hb.size (by simp)) _ | exact hb.setCell (by simp [hb.size]) _) hbn; clear hbn) | (go_at_call 62; refine Calls.mono (Ans.eqb (c_has _ _ hcr64 _) h2) ?_; rintro e w1 ⟨rfl, hbn⟩; replace a1 := cell_keep a1 hbn; replace d0 := cell_keep d0 hbn; replace d1 := cell_keep d1 hbn; replace hb := bel_to (w := w) (by first | exact hb | exact hb.alloc hb.size _ | exact (hb.alloc hb.size _).alloc (Nat.le_trans hb.size (by simp)) _ | exact hb.setCell (by simp [hb.size]) _) hbn; clear hbn))
                go_roundw
                case rel => exact ⟨k + 1, by go_num, by omega, by omega, lt_step (p := fun k' => i < k' → violF R m l r i k' = false) HI.out (fun _ => by rw [HV.out, h1, h2]; rfl), a1, d0, d1, hb⟩
                case measure => simp [intOf]; omega
          · have HI2 : Hid (∀ k', k' < R.length → i < k' → violF R m l r i k' = false) := fun k' h1 h2 => HI.out k' (by omega) h2
            go_wp2
            go_roundw
            case rel => exact ⟨i + 1, by go_num, by omega, lt_step (p := fun i => ∀ k, k < R.length → i < k → violF R m l r i k = false) HA.out HI2.out, a1, d0, d1, hb⟩
            case measure => simp [intOf]; omega
      · have HE : Hid (holdsF R m l r = true) := HH.out fun i' h1 => HA.out i' (by omega)
        go_wp2
        go_ret3
        exact ⟨⟨_, _, by rw [HE.out]; rfl⟩, hb⟩
theorem c_HoldsDep (n : Int) (oa) (cap : Nat) (R : List (List Int)) (m l r : Int) (w : World) (hR : RowsAt w oa R) :
    Ans Tryd.prog 14 #[.agg #[.int .i64 n, .slice oa R.length cap], .int .i64 m, .agg #[.int .i64 l, .int .i64 r]] w (.bool (askF n R m l r && holdsF R m l r)) := by
  unfold Ans
  have hb := bel2 w (.cells #[.int .i64 n, .slice oa R.length cap] 26) (.cells #[.int .i64 l, .int .i64 r] 28)
  have a0 := two_a w #[.int .i64 n, .slice oa R.length cap] 26 #[.int .i64 l, .int .i64 r] 28 0 _ rfl
  have a1 := two_a w #[.int .i64 n, .slice oa R.length cap] 26 #[.int .i64 l, .int .i64 r] 28 1 _ rfl
  have d0 := two_b w #[.int .i64 n, .slice oa R.length cap] 26 #[.int .i64 l, .int .i64 r] 28 0 _ rfl
  have d1 := two_b w #[.int .i64 n, .slice oa R.length cap] 26 #[.int .i64 l, .int .i64 r] 28 1 _ rfl
  have hW := c_WitnessOf n oa cap R m l r _ (hR.keep hb)
  have HK := fun (w' : World) (h : RowsAt w' oa R) => c_asked n oa cap R m l r w' h
  cases hask : askF n R m l r <;> cases hh : holdsF R m l r <;> rw [hask, hh] at hW <;> (
    go_enter Tryd.func14, Tryd.ntmps14
    go_wp2_with fail
    refine hW.mono ?_
    rintro e w1 ⟨⟨x, y, rfl⟩, hbn⟩
    replace a0 := cell_keep a0 hbn
    replace a1 := cell_keep a1 hbn
    replace d0 := cell_keep d0 hbn
    replace d1 := cell_keep d1 hbn
    replace hb := bel_to hb hbn
    clear hbn
    go_wp2_with (first | (go_at_call 44; refine Calls.mono (Ans.eqb (HK _ (hR.keep hb)) hask) ?_; rintro e w1 ⟨rfl, hbn⟩; replace a0 := cell_keep a0 hbn; replace a1 := cell_keep a1 hbn; replace d0 := cell_keep d0 hbn; replace d1 := cell_keep d1 hbn; replace hb := bel_to (w := w) (by first | exact hb | exact hb.alloc hb.size _ | exact (hb.alloc hb.size _).alloc (Nat.le_trans hb.size (by simp)) _ | exact hb.setCell (by simp [hb.size]) _) hbn; clear hbn))
    go_ret
    exact ⟨rfl, hb⟩)
end Go.Proofs.YtcenndlbhgfdfaaDoor
namespace Go.Proofs.YtcenndlbhgfdfaaDoor
open Go.RowKit
set_option linter.unusedVariables false
set_option maxRecDepth 100000

theorem and_swap {x l : Int} (hx : St x) (hl : St l) : (bits BinOp.and .i64 x l == l) = ins l x := by
  obtain ⟨n, hn, rfl⟩ := st_nat hx; obtain ⟨m, hm, rfl⟩ := st_nat hl
  have h : ∀ n < 32, ∀ m < 32, (bits BinOp.and .i64 ((n : Nat) : Int) ((m : Nat) : Int) == ((m : Nat) : Int)) = ins (m : Nat) (n : Nat) := by decide +kernel
  exact h n hn m hm
end Go.Proofs.YtcenndlbhgfdfaaDoor
namespace Go.Proofs.YtcenndlbhgfdfaaDoor
open Go.RowKit
set_option linter.unusedVariables false
set_option maxRecDepth 100000

def sameB (R : List (List Int)) (m s : Int) (i k : Nat) : Bool := ins s (agreeF m (row R i) (row R k))
def tkQ (q : Nat → Nat → Bool) (i k : Nat) : Bool := (List.range i).any fun j => decide (j < k) && q j k
def clsTo (q : Nat → Nat → Bool) (i t : Nat) : List Int := (i : Int) :: (((List.range t).filter fun k => decide (i < k) && q i k).map fun (k : Nat) => (k : Int))
def headQ (q : Nat → Nat → Bool) (N j : Nat) : Bool := !tkQ q j j && decide (1 < (clsTo q j N).length)
def ptnQ (q : Nat → Nat → Bool) (N i : Nat) : List (List Int) := ((List.range i).filter (headQ q N)).map fun j => clsTo q j N
/-- What lies in one class with the same row lies in one class. -/
structure Per (q : Nat → Nat → Bool) (N : Nat) : Prop where
  tr : ∀ i j k, i < N → j < N → q i j = true → q j k = true → q i k = true
  eu : ∀ i j k, i < N → j < N → q j k = true → q i k = true → q j i = true
def ptnOk (n : Int) (R : List (List Int)) (m s : Int) : Bool := (isTabF n R && modeF m) && isAttr n s
def ptnF (n : Int) (R : List (List Int)) (m s : Int) : List (List Int) := if ptnOk n R m s then ptnQ (sameB R m s) R.length R.length else []

theorem eqCell_iff {m a b : Int} : eqCellF m a b = true ↔ modeF m = true ∧ a = b ∧ (m = 0 ∨ a ≠ -1) := by
  unfold eqCellF; simp
theorem eqCell_trans {m a b c : Int} (h : eqCellF m a b = true) (k : eqCellF m b c = true) : eqCellF m a c = true := by
  rw [eqCell_iff] at *
  obtain ⟨h1, rfl, h3⟩ := h
  exact ⟨h1, k.2.1, h3⟩
theorem eqCell_symm {m a b : Int} (h : eqCellF m a b = true) : eqCellF m b a = true := by
  rw [eqCell_iff] at *
  obtain ⟨h1, rfl, h3⟩ := h
  exact ⟨h1, rfl, h3⟩
theorem eqCell_euc {m a b c : Int} (h : eqCellF m a b = true) (k : eqCellF m c b = true) : eqCellF m a c = true := eqCell_trans h (eqCell_symm k)
theorem hasc_agreeTo {m : Int} {A B : List Int} {c : Int} (hc : Co c) : ∀ k, k ≤ 5 → hasc ((List.range k).foldl (agreeStep m A B) 0) c = (decide (c.toNat < k) && eqCellF m (nth A c.toNat) (nth B c.toNat))
  | 0, _ => by
    obtain ⟨j, hj, rfl⟩ := co_nat hc
    have h : ∀ j < 5, hasc 0 ((j : Nat) : Int) = false := by decide +kernel
    simp [h j hj]
  | k + 1, hk => by
    have ih := hasc_agreeTo (m := m) (A := A) (B := B) hc k (by omega)
    have hst : ∀ k, k ≤ 5 → St ((List.range k).foldl (agreeStep m A B) 0) := by
      intro k
      induction k with
      | zero => intro _; exact ⟨by simp, by simp⟩
      | succ k ih => intro hk; rw [range_succ_fold]; exact agreeStep_st (ih (by omega)) (by omega)
    rw [range_succ_fold]
    generalize hx : (List.range k).foldl (agreeStep m A B) 0 = x at *
    have hs : St x := by rw [← hx]; exact hst k (by omega)
    have hck : Co (k : Int) := ⟨by omega, by omega⟩
    have hc0 := hc.1
    unfold agreeStep
    by_cases e : c.toNat = k
    · have ec : c = (k : Int) := by omega
      subst ec
      cases he : eqCellF m (nth A k) (nth B k)
      · simp [ih, he]
      · simp only [if_true]
        rw [hasc_uni hs (one_st hck) hck, hasc_one hck hck]
        simp [he]
    · have e1 : decide (c.toNat < k + 1) = decide (c.toNat < k) := by rw [decide_eq_decide]; omega
      rw [e1, ← ih]
      split
      · rw [hasc_uni hs (one_st hck) hc, hasc_one hck hc]
        have : ((k : Int) == c) = false := by simp; omega
        rw [this, Bool.or_false]
      · rfl
theorem hasc_agree {m : Int} {A B : List Int} {c : Int} (hc : Co c) (h : A.length ≤ 5) : hasc (agreeF m A B) c = (decide (c.toNat < A.length) && eqCellF m (nth A c.toNat) (nth B c.toNat)) := hasc_agreeTo hc _ h
theorem same_iff {n : Int} {R : List (List Int)} {m s : Int} {i k : Nat} (ht : isTabF n R = true) (hs : St s) (hi : i < R.length) :
    sameB R m s i k = true ↔ ∀ c, Co c → hasc s c = true → c.toNat < n.toNat ∧ eqCellF m (nth (row R i) c.toNat) (nth (row R k) c.toNat) = true := by
  obtain ⟨hn1, hn5, _, hl⟩ := isTab_of ht
  have li := hl i hi
  have hA : (row R i).length ≤ 5 := by omega
  unfold sameB
  rw [ins_iff hs (agreeF_st hA)]
  refine ⟨fun h c hc h1 => ?_, fun h c hc h1 => ?_⟩
  · have h2 := h c hc h1
    rw [hasc_agree hc hA] at h2
    simp only [Bool.and_eq_true, decide_eq_true_eq] at h2
    exact ⟨by omega, h2.2⟩
  · obtain ⟨h2, h3⟩ := h c hc h1
    rw [hasc_agree hc hA, h3, decide_eq_true (show c.toNat < (row R i).length by omega)]; rfl
theorem same_trans {n : Int} {R : List (List Int)} {m s : Int} {i j k : Nat} (ht : isTabF n R = true) (hs : St s) (hi : i < R.length) (hj : j < R.length) (h1 : sameB R m s i j = true) (h2 : sameB R m s j k = true) : sameB R m s i k = true := by
  have q1 := (same_iff ht hs hi).1 h1
  have q2 := (same_iff ht hs hj).1 h2
  refine (same_iff ht hs hi).2 fun c hc h => ?_
  exact ⟨(q1 c hc h).1, eqCell_trans (q1 c hc h).2 (q2 c hc h).2⟩
theorem same_euc {n : Int} {R : List (List Int)} {m s : Int} {i j k : Nat} (ht : isTabF n R = true) (hs : St s) (hi : i < R.length) (hj : j < R.length) (h1 : sameB R m s j k = true) (h2 : sameB R m s i k = true) : sameB R m s j i = true := by
  have q1 := (same_iff ht hs hj).1 h1
  have q2 := (same_iff ht hs hi).1 h2
  refine (same_iff ht hs hj).2 fun c hc h => ?_
  exact ⟨(q1 c hc h).1, eqCell_euc (q1 c hc h).2 (q2 c hc h).2⟩
theorem same_per {n : Int} {R : List (List Int)} {m s : Int} (ht : isTabF n R = true) (hs : St s) : Per (sameB R m s) R.length :=
  ⟨fun _ _ _ hi hj => same_trans ht hs hi hj, fun _ _ _ hi hj => same_euc ht hs hi hj⟩
theorem tk_succ (q : Nat → Nat → Bool) (i k : Nat) : tkQ q (i + 1) k = (tkQ q i k || (decide (i < k) && q i k)) := by
  unfold tkQ; rw [List.range_succ, List.any_append]; simp
theorem tk_iff {q : Nat → Nat → Bool} {i k : Nat} : tkQ q i k = true ↔ ∃ j, j < i ∧ j < k ∧ q j k = true := by
  unfold tkQ
  rw [List.any_eq_true]
  simp only [List.mem_range, Bool.and_eq_true, decide_eq_true_eq]
theorem tk_taken {q : Nat → Nat → Bool} {N i : Nat} (hp : Per q N) (hi : i < N) (h : tkQ q i i = true) (k : Nat) : tkQ q (i + 1) k = tkQ q i k := by
  rw [tk_succ]
  cases e : (decide (i < k) && q i k)
  · simp
  · simp only [Bool.and_eq_true, decide_eq_true_eq] at e
    obtain ⟨j, hj, _, h1⟩ := tk_iff.1 h
    have : tkQ q i k = true := tk_iff.2 ⟨j, hj, by omega, hp.tr _ _ _ (by omega) hi h1 e.2⟩
    rw [this]; rfl
theorem tk_free {q : Nat → Nat → Bool} {N i k : Nat} (hp : Per q N) (hi : i < N) (h : tkQ q i i = false) (hk : q i k = true) : tkQ q i k = false := by
  cases e : tkQ q i k
  · rfl
  · obtain ⟨j, hj, _, h1⟩ := tk_iff.1 e
    have : tkQ q i i = true := tk_iff.2 ⟨j, hj, hj, hp.eu _ _ _ hi (by omega) h1 hk⟩
    rw [h] at this; cases this
theorem cls_succ (q : Nat → Nat → Bool) (i t : Nat) : clsTo q i (t + 1) = clsTo q i t ++ (if decide (i < t) && q i t then [(t : Int)] else []) := by
  unfold clsTo
  rw [List.range_succ, List.filter_append, List.map_append, List.cons_append]
  congr 2
  cases h : (decide (i < t) && q i t) <;> simp [h]
theorem cls_first (q : Nat → Nat → Bool) (i : Nat) : clsTo q i (i + 1) = [(i : Int)] := by
  unfold clsTo
  have : (List.range (i + 1)).filter (fun k => decide (i < k) && q i k) = [] := by
    rw [List.filter_eq_nil_iff]
    intro k hk
    have := List.mem_range.1 hk
    rw [decide_eq_false (show ¬ i < k by omega)]; simp
  rw [this]; rfl
theorem cls_len (q : Nat → Nat → Bool) (i t : Nat) : (clsTo q i t).length ≤ t + 1 := by
  unfold clsTo
  rw [List.length_cons, List.length_map]
  have := List.length_filter_le (fun k => decide (i < k) && q i k) (List.range t)
  rw [List.length_range] at this
  omega
theorem cls_mem {q : Nat → Nat → Bool} {i t : Nat} {x : Int} : x ∈ clsTo q i t ↔ x = i ∨ ∃ k : Nat, x = k ∧ k < t ∧ i < k ∧ q i k = true := by
  unfold clsTo
  rw [List.mem_cons, List.mem_map]
  simp only [List.mem_filter, List.mem_range, Bool.and_eq_true, decide_eq_true_eq]
  constructor
  · rintro (h | ⟨k, ⟨h1, h2, h3⟩, rfl⟩)
    · exact .inl h
    · exact .inr ⟨k, rfl, h1, h2, h3⟩
  · rintro (h | ⟨k, rfl, h1, h2, h3⟩)
    · exact .inl h
    · exact .inr ⟨k, ⟨h1, h2, h3⟩, rfl⟩
theorem ptn_succ (q : Nat → Nat → Bool) (N i : Nat) : ptnQ q N (i + 1) = ptnQ q N i ++ (if headQ q N i then [clsTo q i N] else []) := by
  unfold ptnQ
  rw [List.range_succ, List.filter_append, List.map_append]
  cases h : headQ q N i <;> simp [h]
theorem ptn_len (q : Nat → Nat → Bool) (N i : Nat) : (ptnQ q N i).length ≤ i := by
  unfold ptnQ
  rw [List.length_map]
  have := List.length_filter_le (headQ q N) (List.range i)
  rw [List.length_range] at this
  omega
theorem ptn_mem {q : Nat → Nat → Bool} {N i : Nat} {C : List Int} : C ∈ ptnQ q N i ↔ ∃ j, j < i ∧ headQ q N j = true ∧ C = clsTo q j N := by
  unfold ptnQ
  rw [List.mem_map]
  simp only [List.mem_filter, List.mem_range]
  constructor
  · rintro ⟨j, ⟨h1, h2⟩, rfl⟩; exact ⟨j, h1, h2, rfl⟩
  · rintro ⟨j, h1, h2, rfl⟩; exact ⟨j, ⟨h1, h2⟩, rfl⟩
theorem ptn_row {q : Nat → Nat → Bool} {N i j : Nat} (hj : j < (ptnQ q N i).length) : (row (ptnQ q N i) j).length ≤ N + 1 := by
  obtain ⟨k, _, _, e⟩ := ptn_mem.1 (row_mem hj)
  rw [e]; exact cls_len ..
theorem ptn_flat {q : Nat → Nat → Bool} {N : Nat} (hp : Per q N) {i k : Nat} (hik : i ≤ k) (hk : k < N) : (k : Int) ∈ (ptnQ q N i).flatten ↔ tkQ q i k = true := by
  rw [List.mem_flatten]
  constructor
  · rintro ⟨C, hC, hx⟩
    obtain ⟨j, hj, _, rfl⟩ := ptn_mem.1 hC
    rcases cls_mem.1 hx with e | ⟨t, e, _, h2, h3⟩
    · omega
    · have : t = k := by omega
      subst this
      exact tk_iff.2 ⟨j, hj, h2, h3⟩
  · intro h
    have hex : ∃ j, j < i ∧ j < k ∧ q j k = true := tk_iff.1 h
    have hmin : ∃ j, (j < i ∧ j < k ∧ q j k = true) ∧ ∀ t, t < j → ¬ (t < i ∧ t < k ∧ q t k = true) := by
      obtain ⟨j, hj⟩ := hex
      induction j using Nat.strongRecOn with
      | _ j ih =>
        by_cases hq : ∃ t, t < j ∧ (t < i ∧ t < k ∧ q t k = true)
        · obtain ⟨t, h1, h2⟩ := hq; exact ih t h1 h2
        · exact ⟨j, hj, fun t h1 h2 => hq ⟨t, h1, h2⟩⟩
    obtain ⟨j, ⟨h1, h2, h3⟩, hlow⟩ := hmin
    have hm : (k : Int) ∈ clsTo q j N := cls_mem.2 (.inr ⟨k, rfl, hk, h2, h3⟩)
    refine ⟨clsTo q j N, ptn_mem.2 ⟨j, h1, ?_, rfl⟩, hm⟩
    unfold headQ
    have e1 : tkQ q j j = false := by
      cases e : tkQ q j j
      · rfl
      · obtain ⟨t, h4, _, h5⟩ := tk_iff.1 e
        exact absurd ⟨by omega, by omega, hp.tr _ _ _ (by omega) (by omega) h5 h3⟩ (hlow t h4)
    rw [e1]
    have : 1 < (clsTo q j N).length := by
      have hm2 := hm
      unfold clsTo at hm2 ⊢
      rw [List.mem_cons] at hm2
      rcases hm2 with e | hm2
      · omega
      · rw [List.length_cons]
        have := List.length_pos_of_mem hm2
        omega
    simp [this]
theorem flat_len {q : Nat → Nat → Bool} {N : Nat} (hN : N ≤ 40) (i : Nat) : ((ptnQ q N i).flatten).length ≤ 41 * i := by
  induction i with
  | zero => simp [ptnQ]
  | succ i ih =>
    rw [ptn_succ, List.flatten_append, List.length_append]
    have h2 := cls_len q i N
    have h3 : ((if headQ q N i then [clsTo q i N] else []).flatten).length ≤ 41 := by
      split
      · simp only [List.flatten_cons, List.flatten_nil, List.append_nil]; omega
      · simp
    omega
end Go.Proofs.YtcenndlbhgfdfaaDoor
namespace Go.Proofs.YtcenndlbhgfdfaaDoor
open Go.RowKit
set_option linter.unusedVariables false
set_option maxRecDepth 100000

def ownAt (R : List (List Int)) (x : Int) (k : Nat) : Prop := k < R.length ∧ x ∈ row R k ∧ ∀ j, j < k → x ∉ row R j
/-- The first class that has a row, or -1. -/
def ownF (R : List (List Int)) (x : Int) : Int := match (List.range R.length).find? (fun k => decide (x ∈ row R k)) with
  | some k => (k : Int)
  | none => -1
theorem ownAt_eq {R : List (List Int)} {x : Int} {a b : Nat} (ha : ownAt R x a) (hb : ownAt R x b) : a = b := by
  rcases Nat.lt_trichotomy a b with h | h | h
  · exact absurd ha.2.1 (hb.2.2 a h)
  · exact h
  · exact absurd hb.2.1 (ha.2.2 b h)
theorem ownF_cases (R : List (List Int)) (x : Int) : (ownF R x = -1 ∧ ∀ j, j < R.length → x ∉ row R j) ∨ ∃ k, ownAt R x k ∧ ownF R x = k := by
  unfold ownF
  cases h : (List.range R.length).find? (fun k => decide (x ∈ row R k)) with
  | none =>
    refine .inl ⟨rfl, fun j hj hx => ?_⟩
    have := List.find?_eq_none.1 h j (List.mem_range.2 hj)
    simp [hx] at this
  | some k =>
    rw [List.find?_range_eq_some] at h
    obtain ⟨h1, h2, h3⟩ := h
    refine .inr ⟨k, ⟨List.mem_range.1 h2, of_decide_eq_true h1, fun j hj hx => ?_⟩, rfl⟩
    have := h3 j hj
    simp [hx] at this
theorem ownF_at {R : List (List Int)} {x : Int} {k : Nat} (h : ownAt R x k) : ownF R x = k := by
  rcases ownF_cases R x with ⟨_, h1⟩ | ⟨c, h1, h2⟩
  · exact absurd h.2.1 (h1 k h.1)
  · rw [h2, ownAt_eq h1 h]
theorem ownF_none {R : List (List Int)} {x : Int} (h : ∀ j, j < R.length → x ∉ row R j) : ownF R x = -1 := by
  rcases ownF_cases R x with ⟨h1, _⟩ | ⟨c, h1, h2⟩
  · exact h1
  · exact absurd h1.2.1 (h c h1.1)
theorem ownF_ge {R : List (List Int)} {x : Int} (h : 0 ≤ ownF R x) : ∃ k, ownAt R x k ∧ ownF R x = k := by
  rcases ownF_cases R x with ⟨h1, _⟩ | h1
  · omega
  · exact h1
theorem ownF_lo (R : List (List Int)) (x : Int) : -1 ≤ ownF R x := by
  rcases ownF_cases R x with ⟨h1, _⟩ | ⟨k, _, h1⟩ <;> omega
theorem ownF_hi (R : List (List Int)) (x : Int) : ownF R x < R.length ∨ ownF R x = -1 := by
  rcases ownF_cases R x with ⟨h1, _⟩ | ⟨k, h2, h1⟩
  · exact .inr h1
  · have := h2.1; exact .inl (by omega)

/-- What is asked of the class i. -/
def ptnElt (R : List (List Int)) (N i k : Nat) : Prop := 0 ≤ nth (row R i) k ∧ nth (row R i) k < N ∧ (0 < k → nth (row R i) (k - 1) < nth (row R i) k) ∧ ownF R (nth (row R i) k) = i
def ptnHead (R : List (List Int)) (i : Nat) : Prop := 2 ≤ (row R i).length ∧ (0 < i → nth (row R (i - 1)) 0 < nth (row R i) 0)
def ptnRow (R : List (List Int)) (N i : Nat) : Prop := ptnHead R i ∧ ∀ k, k < (row R i).length → ptnElt R N i k
def ptnAll (R : List (List Int)) (N : Nat) : Prop := ∀ i, i < R.length → ptnRow R N i
instance (R : List (List Int)) (N i k : Nat) : Decidable (ptnElt R N i k) := by unfold ptnElt; exact inferInstance
instance (R : List (List Int)) (i : Nat) : Decidable (ptnHead R i) := by unfold ptnHead; exact inferInstance
instance (R : List (List Int)) (N i : Nat) : Decidable (ptnRow R N i) := by unfold ptnRow; exact inferInstance
instance (R : List (List Int)) (N : Nat) : Decidable (ptnAll R N) := by unfold ptnAll; exact inferInstance
def isPtnF (R : List (List Int)) (N : Nat) : Bool := decide (ptnAll R N)
theorem isPtn_iff {R : List (List Int)} {N : Nat} : isPtnF R N = true ↔ ptnAll R N := by unfold isPtnF; exact decide_eq_true_iff
theorem isPtn_no {R : List (List Int)} {N i : Nat} (hi : i < R.length) (h : ¬ ptnRow R N i) : isPtnF R N = false := by
  cases e : isPtnF R N
  · rfl
  · exact absurd (isPtn_iff.1 e i hi) h
theorem isPtn_noE {R : List (List Int)} {N i k : Nat} (hi : i < R.length) (hk : k < (row R i).length) (h : ¬ ptnElt R N i k) : isPtnF R N = false := isPtn_no hi fun h' => h (h'.2 k hk)
theorem isPtn_noH {R : List (List Int)} {N i : Nat} (hi : i < R.length) (h : ¬ ptnHead R i) : isPtnF R N = false := isPtn_no hi fun h' => h h'.1

def relF (P S : List (List Int)) (i k : Nat) : Bool := (decide (0 ≤ ownF P i) && decide (0 ≤ ownF S i)) && ((ownF P i == ownF P k) && (ownF S i == ownF S k))
theorem rel_iff {P S : List (List Int)} {i k : Nat} : relF P S i k = true ↔ 0 ≤ ownF P i ∧ 0 ≤ ownF S i ∧ ownF P i = ownF P k ∧ ownF S i = ownF S k := by
  unfold relF; simp [and_assoc]
theorem rel_per (P S : List (List Int)) (N : Nat) : Per (relF P S) N := by
  refine ⟨fun i j k _ _ h1 h2 => ?_, fun i j k _ _ h1 h2 => ?_⟩
  · rw [rel_iff] at *; omega
  · rw [rel_iff] at *; omega
def errF (R : List (List Int)) : Int := (R.map fun L => max 0 ((L.length : Int) - 1)).foldl (· + ·) 0
def finF (P S : List (List Int)) : Bool := P.all fun L => !S.isEmpty && L.all fun x => decide (0 ≤ ownF S x) && (ownF S x == ownF S (nth L 0))
def prodF (P S : List (List Int)) (N : Nat) : List (List Int) := if isPtnF P N && isPtnF S N then ptnQ (relF P S) N N else []

/-- A relation that is symmetric and transitive. -/
structure Eqv (q : Nat → Nat → Bool) (N : Nat) : Prop where
  per : Per q N
  sy : ∀ i k, i < N → k < N → q i k = true → q k i = true
theorem Eqv.join {q : Nat → Nat → Bool} {N i j k : Nat} (h : Eqv q N) (hi : i < N) (hj : j < N) (hk : k < N) (h1 : q j i = true) (h2 : q j k = true) : q i k = true := h.per.tr _ _ _ hi hj (h.sy _ _ hj hi h1) h2

theorem nth_memP {L : List Int} {k : Nat} (h : k < L.length) : nth L k ∈ L := List.mem_iff_getElem?.2 ⟨k, nth_eq h⟩
theorem row_nil {R : List (List Int)} {k : Nat} (h : R.length ≤ k) : row R k = [] := by simp [row, List.getD, List.getElem?_eq_none h]
theorem cls_head (q : Nat → Nat → Bool) (i t : Nat) : nth (clsTo q i t) 0 = i := rfl
theorem cls_ge {q : Nat → Nat → Bool} {i t : Nat} {x : Int} (h : x ∈ clsTo q i t) : (i : Int) ≤ x := by
  rcases cls_mem.1 h with e | ⟨k, e, _, h2, _⟩ <;> omega
theorem cls_lt {q : Nat → Nat → Bool} {i t : Nat} {x : Int} (hi : i < t) (h : x ∈ clsTo q i t) : x < t := by
  rcases cls_mem.1 h with e | ⟨k, e, h2, _, _⟩ <;> omega
theorem cls_sorted (q : Nat → Nat → Bool) (i : Nat) : ∀ t, (clsTo q i t).Pairwise (· < ·)
  | 0 => by unfold clsTo; simp
  | t + 1 => by
    rw [cls_succ]
    split
    · rename_i h
      simp only [Bool.and_eq_true, decide_eq_true_eq] at h
      rw [List.pairwise_append]
      refine ⟨cls_sorted q i t, by simp, fun a ha b hb => ?_⟩
      rw [List.mem_singleton] at hb
      rcases cls_mem.1 ha with e | ⟨k, e, h2, _, _⟩ <;> omega
    · rw [List.append_nil]; exact cls_sorted q i t
theorem sorted_nth {L : List Int} (h : L.Pairwise (· < ·)) {k : Nat} (h0 : 0 < k) (hk : k < L.length) : nth L (k - 1) < nth L k := by
  rw [List.pairwise_iff_getElem] at h
  have := h (k - 1) k (by omega) hk (by omega)
  unfold nth List.getD
  rw [List.getElem?_eq_getElem hk, List.getElem?_eq_getElem (show k - 1 < L.length by omega)]
  exact this
theorem sorted_eq : ∀ {A B : List Int}, A.Pairwise (· < ·) → B.Pairwise (· < ·) → (∀ x, x ∈ A ↔ x ∈ B) → A = B
  | [], [], _, _, _ => rfl
  | [], b :: B, _, _, h => absurd ((h b).2 (by simp)) (by simp)
  | a :: A, [], _, _, h => absurd ((h a).1 (by simp)) (by simp)
  | a :: A, b :: B, hA, hB, h => by
    rw [List.pairwise_cons] at hA hB
    have e : a = b := by
      rcases List.mem_cons.1 ((h a).1 (by simp)) with e | h1
      · exact e
      · rcases List.mem_cons.1 ((h b).2 (by simp)) with e | h2
        · exact e.symm
        · have := hA.1 _ h2; have := hB.1 _ h1; omega
    subst e
    rw [sorted_eq hA.2 hB.2 fun x => ?_]
    constructor
    · intro hx
      rcases List.mem_cons.1 ((h x).1 (List.mem_cons_of_mem _ hx)) with e | h1
      · have := hA.1 x hx; omega
      · exact h1
    · intro hx
      rcases List.mem_cons.1 ((h x).2 (List.mem_cons_of_mem _ hx)) with e | h1
      · have := hB.1 x hx; omega
      · exact h1
/-- The heads of the classes, in order. -/
def heads (q : Nat → Nat → Bool) (N i : Nat) : List Nat := (List.range i).filter (headQ q N)
theorem ptn_heads (q : Nat → Nat → Bool) (N i : Nat) : ptnQ q N i = (heads q N i).map fun j => clsTo q j N := rfl
theorem ptn_rowAt {q : Nat → Nat → Bool} {N c : Nat} (hc : c < (ptnQ q N N).length) : ∃ j, (heads q N N)[c]? = some j ∧ j < N ∧ headQ q N j = true ∧ row (ptnQ q N N) c = clsTo q j N := by
  rw [ptn_heads, List.length_map] at hc
  refine ⟨(heads q N N)[c], List.getElem?_eq_getElem hc, ?_, ?_, ?_⟩
  · have := List.getElem_mem hc
    unfold heads at this
    rw [List.mem_filter, List.mem_range] at this
    exact this.1
  · have := List.getElem_mem hc
    unfold heads at this
    rw [List.mem_filter] at this
    exact this.2
  · rw [ptn_heads]
    unfold row List.getD
    rw [List.getElem?_map, List.getElem?_eq_getElem hc]; rfl
theorem heads_sorted (q : Nat → Nat → Bool) (N i : Nat) : (heads q N i).Pairwise (· < ·) := (List.pairwise_lt_range).filter _
theorem heads_lt {q : Nat → Nat → Bool} {N a b i j : Nat} (hab : a < b) (ha : (heads q N N)[a]? = some i) (hb : (heads q N N)[b]? = some j) : i < j := by
  have h := heads_sorted q N N
  rw [List.pairwise_iff_getElem] at h
  obtain ⟨h1, e1⟩ := List.getElem?_eq_some_iff.1 ha
  obtain ⟨h2, e2⟩ := List.getElem?_eq_some_iff.1 hb
  have := h a b h1 h2 hab
  rw [e1, e2] at this
  exact this
theorem head_free {q : Nat → Nat → Bool} {N j : Nat} (h : headQ q N j = true) : tkQ q j j = false ∧ 1 < (clsTo q j N).length := by
  unfold headQ at h
  simp only [Bool.and_eq_true, Bool.not_eq_true', decide_eq_true_eq] at h
  exact h
/-- Two classes with a row in common are one. -/
theorem cls_apart {q : Nat → Nat → Bool} {N a b : Nat} {x : Int} (hp : Per q N) (hab : a < b) (hb : b < N) (hh : headQ q N b = true) (h1 : x ∈ clsTo q a N) : x ∉ clsTo q b N := by
  intro h2
  have hf := (head_free hh).1
  have hg := cls_ge h2
  have no : q a b = true → False := fun h => by
    have : tkQ q b b = true := tk_iff.2 ⟨a, hab, hab, h⟩
    rw [hf] at this; cases this
  rcases cls_mem.1 h1 with e1 | ⟨k, e1, k1, k2, k3⟩
  · omega
  · rcases cls_mem.1 h2 with e2 | ⟨t, e2, t1, t2, t3⟩
    · have : k = b := by omega
      subst this
      exact no k3
    · have : t = k := by omega
      subst this
      exact no (hp.eu _ _ _ hb (by omega) k3 t3)
theorem own_cls {q : Nat → Nat → Bool} {N c : Nat} {x : Int} (hp : Per q N) (hc : c < (ptnQ q N N).length) (hx : x ∈ row (ptnQ q N N) c) : ownAt (ptnQ q N N) x c := by
  refine ⟨hc, hx, fun j hj h => ?_⟩
  obtain ⟨a, ha, _, _, ea⟩ := ptn_rowAt (q := q) (N := N) (show j < _ by omega)
  obtain ⟨b, hb, hbN, hh, eb⟩ := ptn_rowAt (q := q) (N := N) hc
  rw [ea] at h
  rw [eb] at hx
  exact cls_apart hp (heads_lt hj ha hb) hbN hh h hx
/-- Two rows of one class, told by the partition. -/
theorem own_iff {q : Nat → Nat → Bool} {N i k : Nat} (hp : Eqv q N) (hik : i < k) (hk : k < N) : q i k = true ↔ 0 ≤ ownF (ptnQ q N N) i ∧ ownF (ptnQ q N N) i = ownF (ptnQ q N N) k := by
  constructor
  · intro h
    have hex : (k : Int) ∈ (ptnQ q N N).flatten := (List.mem_flatten).2 (by
      -- the class whose head is the least row with which k lies
      have hmin : ∃ j, (j < k ∧ q j k = true) ∧ ∀ t, t < j → ¬ (t < k ∧ q t k = true) := by
        have h0 : i < k ∧ q i k = true := ⟨hik, h⟩
        clear h hik
        induction i using Nat.strongRecOn with
        | _ i ih =>
          by_cases hq : ∃ t, t < i ∧ (t < k ∧ q t k = true)
          · obtain ⟨t, h1, h2⟩ := hq; exact ih t h1 h2
          · exact ⟨i, h0, fun t h1 h2 => hq ⟨t, h1, h2⟩⟩
      obtain ⟨j, ⟨h2, h3⟩, hlow⟩ := hmin
      have hm : (k : Int) ∈ clsTo q j N := cls_mem.2 (.inr ⟨k, rfl, hk, h2, h3⟩)
      refine ⟨clsTo q j N, ptn_mem.2 ⟨j, by omega, ?_, rfl⟩, hm⟩
      unfold headQ
      have e1 : tkQ q j j = false := by
        cases e : tkQ q j j
        · rfl
        · obtain ⟨t, h4, _, h5⟩ := tk_iff.1 e
          exact absurd ⟨by omega, hp.per.tr _ _ _ (by omega) (by omega) h5 h3⟩ (hlow t h4)
      rw [e1]
      have : 1 < (clsTo q j N).length := by
        unfold clsTo at hm ⊢
        rw [List.mem_cons] at hm
        rcases hm with e | hm
        · omega
        · rw [List.length_cons]
          have := List.length_pos_of_mem hm
          omega
      simp [this])
    obtain ⟨C, hC, hkC⟩ := List.mem_flatten.1 hex
    obtain ⟨c, hc⟩ := List.mem_iff_getElem?.1 hC
    have hcl : c < (ptnQ q N N).length := (List.getElem?_eq_some_iff.1 hc).1
    have hCr : row (ptnQ q N N) c = C := by rw [row_eq hcl] at hc; exact Option.some.inj hc
    obtain ⟨j, hj, hjN, hh, ej⟩ := ptn_rowAt hcl
    have hiC : (i : Int) ∈ row (ptnQ q N N) c := by
      rw [← hCr, ej] at hkC
      rw [ej]
      have hf := (head_free hh).1
      rcases cls_mem.1 hkC with e | ⟨t, e, t1, t2, t3⟩
      · have : j = k := by omega
        subst this
        have : tkQ q j j = true := tk_iff.2 ⟨i, hik, hik, h⟩
        rw [hf] at this; cases this
      · have : t = k := by omega
        subst this
        by_cases e : i = j
        · subst e; exact cls_mem.2 (.inl rfl)
        · have hji : q j i = true := hp.per.eu _ _ _ (by omega) hjN t3 h
          by_cases hlt : j < i
          · exact cls_mem.2 (.inr ⟨i, rfl, by omega, hlt, hji⟩)
          · have : tkQ q j j = true := tk_iff.2 ⟨i, by omega, by omega, hp.sy _ _ hjN (by omega) hji⟩
            rw [hf] at this; cases this
    have a1 := ownF_at (own_cls hp.per hcl hiC)
    have a2 := ownF_at (own_cls hp.per hcl (show (k : Int) ∈ _ by rw [hCr]; exact hkC))
    rw [a1, a2]
    omega
  · rintro ⟨h0, h1⟩
    obtain ⟨c, hc, e⟩ := ownF_ge h0
    obtain ⟨c', hc', e'⟩ := ownF_ge (h1 ▸ h0)
    have : c' = c := by omega
    subst this
    obtain ⟨j, hj, hjN, hh, ej⟩ := ptn_rowAt hc.1
    have hi := hc.2.1
    have hk' := hc'.2.1
    rw [ej] at hi hk'
    have g := cls_ge hi
    rcases cls_mem.1 hk' with e2 | ⟨t, e2, t1, t2, t3⟩
    · omega
    · have : t = k := by omega
      subst this
      rcases cls_mem.1 hi with e3 | ⟨u, e3, u1, u2, u3⟩
      · have : i = j := by omega
        subst this; exact t3
      · have : u = i := by omega
        subst this
        exact hp.join (by omega) hjN hk u3 t3
theorem any_cong {f g : Nat → Bool} : ∀ {l : List Nat}, (∀ x ∈ l, f x = g x) → l.any f = l.any g
  | [], _ => rfl
  | a :: l, h => by rw [List.any_cons, List.any_cons, h a (by simp), any_cong fun x hx => h x (by simp [hx])]
theorem tk_cong {q q' : Nat → Nat → Bool} {N i k : Nat} (h : ∀ i k, i < k → k < N → q i k = q' i k) (hk : k < N) : tkQ q i k = tkQ q' i k := by
  unfold tkQ
  refine any_cong fun j _ => ?_
  by_cases hj : j < k
  · rw [h j k hj hk]
  · rw [decide_eq_false hj]; rfl
theorem cls_cong {q q' : Nat → Nat → Bool} {N i : Nat} (h : ∀ i k, i < k → k < N → q i k = q' i k) : clsTo q i N = clsTo q' i N := by
  unfold clsTo
  congr 2
  apply List.filter_congr
  intro k hk
  rw [List.mem_range] at hk
  by_cases hj : i < k
  · rw [h i k hj hk]
  · rw [decide_eq_false hj]; rfl
theorem ptn_cong {q q' : Nat → Nat → Bool} {N : Nat} (h : ∀ i k, i < k → k < N → q i k = q' i k) : ptnQ q N N = ptnQ q' N N := by
  unfold ptnQ
  have e1 : (List.range N).filter (headQ q N) = (List.range N).filter (headQ q' N) := by
    apply List.filter_congr
    intro k hk
    rw [List.mem_range] at hk
    unfold headQ
    rw [tk_cong h hk, cls_cong h]
  rw [e1]
  apply List.map_congr_left
  intro j _
  exact cls_cong h
theorem isPtn_ptn {q : Nat → Nat → Bool} {N : Nat} (hp : Per q N) : isPtnF (ptnQ q N N) N = true := by
  refine isPtn_iff.2 fun c hc => ?_
  obtain ⟨j, hj, hjN, hh, ej⟩ := ptn_rowAt hc
  refine ⟨⟨by rw [ej]; exact (head_free hh).2, fun h0 => ?_⟩, fun k hk => ?_⟩
  · obtain ⟨a, ha, _, _, ea⟩ := ptn_rowAt (q := q) (N := N) (show c - 1 < _ by omega)
    rw [ej, ea, cls_head, cls_head]
    have := heads_lt (show c - 1 < c by omega) ha hj
    omega
  · have hm := nth_memP hk
    refine ⟨?_, ?_, fun h0 => ?_, ownF_at (own_cls hp hc hm)⟩
    · rw [ej] at hm ⊢; have := cls_ge hm; omega
    · rw [ej] at hm ⊢; exact cls_lt hjN hm
    · rw [ej] at hk ⊢
      exact sorted_nth (cls_sorted q j N) h0 hk
theorem err_foldl (l : List Int) : ∀ z : Int, l.foldl (· + ·) z = z + l.foldl (· + ·) 0 := by
  induction l with
  | nil => intro z; simp
  | cons a l ih => intro z; rw [List.foldl_cons, List.foldl_cons, ih (z + a), ih (0 + a)]; omega
theorem err_snoc (R : List (List Int)) (L : List Int) : errF (R ++ [L]) = errF R + max 0 ((L.length : Int) - 1) := by
  unfold errF; rw [List.map_append, List.foldl_append]; rfl
def cntP (p : Nat → Bool) (N : Nat) : Nat := ((List.range N).filter p).length
theorem cntP_succ (p : Nat → Bool) (N : Nat) : cntP p (N + 1) = cntP p N + (if p N then 1 else 0) := by
  unfold cntP
  rw [List.range_succ, List.filter_append, List.length_append]
  cases h : p N <;> simp [h]
theorem cnt_or {p r : Nat → Bool} : ∀ {N : Nat}, (∀ k, k < N → r k = true → p k = false) → cntP (fun k => p k || r k) N = cntP p N + cntP r N
  | 0, _ => rfl
  | N + 1, h => by
    rw [cntP_succ, cntP_succ, cntP_succ, cnt_or fun k hk => h k (by omega)]
    have := h N (by omega)
    cases e1 : p N <;> cases e2 : r N <;> simp_all <;> omega
theorem cnt_cong {p r : Nat → Bool} {N : Nat} (h : ∀ k, k < N → p k = r k) : cntP p N = cntP r N := by
  unfold cntP
  rw [List.filter_congr (fun k hk => h k (List.mem_range.1 hk))]
theorem cntP_le {p r : Nat → Bool} : ∀ {N : Nat}, (∀ k, k < N → p k = true → r k = true) → cntP p N ≤ cntP r N ∧ (cntP p N = cntP r N → ∀ k, k < N → r k = true → p k = true)
  | 0, _ => ⟨Nat.le_refl _, fun _ k hk => by omega⟩
  | N + 1, h => by
    obtain ⟨h1, h2⟩ := cntP_le (N := N) fun k hk => h k (by omega)
    have h3 := h N (by omega)
    rw [cntP_succ, cntP_succ]
    refine ⟨by cases e1 : p N <;> cases e2 : r N <;> simp_all <;> omega, fun e k hk hr => ?_⟩
    have e0 : cntP p N = cntP r N ∧ p N = r N := by cases e1 : p N <;> cases e2 : r N <;> simp_all <;> omega
    rcases Nat.lt_or_ge k N with hlt | hge
    · exact h2 e0.1 k hlt hr
    · have : k = N := by omega
      subst this
      rw [e0.2]; exact hr
theorem err_ptn {q : Nat → Nat → Bool} {N : Nat} (hp : Per q N) : ∀ i, i ≤ N → errF (ptnQ q N i) = cntP (tkQ q i) N
  | 0, _ => by
    have : cntP (tkQ q 0) N = 0 := by
      unfold cntP
      rw [List.length_eq_zero_iff, List.filter_eq_nil_iff]
      intro k _; simp [tkQ]
    rw [this]; rfl
  | i + 1, hi => by
    have ih := err_ptn hp i (by omega)
    rw [ptn_succ]
    cases ht : tkQ q i i
    · have e1 : cntP (tkQ q (i + 1)) N = cntP (tkQ q i) N + cntP (fun k => decide (i < k) && q i k) N := by
        rw [← cnt_or (N := N)]
        · exact cnt_cong fun k _ => tk_succ q i k
        · intro k hk h
          simp only [Bool.and_eq_true] at h
          exact tk_free hp (by omega) ht h.2
      have e2 : (clsTo q i N).length = cntP (fun k => decide (i < k) && q i k) N + 1 := by
        unfold clsTo cntP; rw [List.length_cons, List.length_map]
      cases hh : headQ q N i
      · unfold headQ at hh
        rw [ht] at hh
        simp only [Bool.not_false, Bool.true_and, decide_eq_false_iff_not] at hh
        simp only [Bool.false_eq_true, if_false, List.append_nil]
        rw [ih, e1]; omega
      · have h1 := (head_free hh).2
        simp only [if_true]
        rw [err_snoc, ih, e1]; omega
    · have hh : headQ q N i = false := by unfold headQ; rw [ht]; rfl
      rw [hh]
      simp only [Bool.false_eq_true, if_false, List.append_nil]
      rw [ih, cnt_cong fun k _ => (tk_taken hp (by omega) ht k).symm]
/-- All pairs of q lie in s. -/
def subQ (q s : Nat → Nat → Bool) (N : Nat) : Prop := ∀ i k, i < k → k < N → q i k = true → s i k = true
theorem err_iff {q s b : Nat → Nat → Bool} {N : Nat} (hq : Eqv q N) (hs : Eqv s N) (hbp : Per b N) (hb : ∀ i k, i < k → k < N → b i k = (q i k && s i k)) :
    subQ q s N ↔ errF (ptnQ q N N) = errF (ptnQ b N N) := by
  rw [err_ptn hq.per N (Nat.le_refl _), err_ptn hbp N (Nat.le_refl _)]
  constructor
  · intro h
    rw [cnt_cong (p := tkQ q N) (r := tkQ b N)]
    intro k hk
    refine tk_cong (N := N) (fun i k hik hk => ?_) hk
    rw [hb i k hik hk]
    cases e : q i k
    · rfl
    · rw [h i k hik hk e]; rfl
  · intro h
    have hle := cntP_le (p := tkQ b N) (r := tkQ q N) (N := N) fun k hk hx => by
      obtain ⟨j, h1, h2, h3⟩ := tk_iff.1 hx
      rw [hb j k h2 hk, Bool.and_eq_true] at h3
      exact tk_iff.2 ⟨j, h1, h2, h3.1⟩
    have hall := hle.2 (by omega)
    -- the least row with a pair outside s
    have main : ∀ k, k < N → ∀ i, i < k → q i k = true → s i k = true := by
      intro k
      induction k using Nat.strongRecOn with
      | _ k ih =>
        intro hk i hik h1
        cases hsi : s i k
        · exfalso
          obtain ⟨t, _, t2, t3⟩ := tk_iff.1 (hall k hk (tk_iff.2 ⟨i, by omega, hik, h1⟩))
          rw [hb t k t2 hk, Bool.and_eq_true] at t3
          have qik : q i t = true := hq.per.eu t i k (by omega) (by omega) h1 t3.1
          rcases Nat.lt_trichotomy i t with hlt | e | hlt
          · have s1 := ih t t2 (by omega) i hlt qik
            have := hs.per.tr _ _ _ (by omega) (by omega) s1 t3.2
            rw [hsi] at this; cases this
          · subst e; rw [hsi] at t3; cases t3.2
          · have s1 := ih i hik (by omega) t hlt (hq.sy _ _ (by omega) (by omega) qik)
            have s2 := hs.sy _ _ (by omega) (by omega) s1
            have := hs.per.tr _ _ _ (by omega) (by omega) s2 t3.2
            rw [hsi] at this; cases this
        · rfl
    intro i k hik hk h1
    exact main k hk i hik h1
theorem fin_of {q s : Nat → Nat → Bool} {N : Nat} (hs : Eqv s N) (h : subQ q s N) : finF (ptnQ q N N) (ptnQ s N N) = true := by
  unfold finF
  rw [List.all_eq_true]
  intro L hL
  obtain ⟨j, hj, hh, rfl⟩ := ptn_mem.1 hL
  have hl := (head_free hh).2
  have each : ∀ x ∈ clsTo q j N, x ≠ j → 0 ≤ ownF (ptnQ s N N) j ∧ ownF (ptnQ s N N) j = ownF (ptnQ s N N) x := fun x hx hne => by
    rcases cls_mem.1 hx with e | ⟨k, rfl, k1, k2, k3⟩
    · exact absurd e hne
    · exact (own_iff hs k2 k1).1 (h j k k2 k1 k3)
  have hsome : 0 ≤ ownF (ptnQ s N N) (j : Int) := by
    have h1 : 1 < (clsTo q j N).length := hl
    have hm := nth_memP h1
    have hs := sorted_nth (cls_sorted q j N) (show 0 < 1 by omega) h1
    rw [cls_head] at hs
    exact (each _ hm (by omega)).1
  have hne : (ptnQ s N N).isEmpty = false := by
    obtain ⟨c, hc, _⟩ := ownF_ge hsome
    have := hc.1
    cases e : ptnQ s N N with
    | nil => rw [e] at this; simp at this
    | cons => rfl
  rw [hne, Bool.not_false, Bool.true_and, List.all_eq_true]
  intro x hx
  rw [cls_head]
  by_cases e : x = j
  · subst e; simp [hsome]
  · obtain ⟨h1, h2⟩ := each x hx e
    rw [← h2]; simp [h1]
theorem fin_sub {q s : Nat → Nat → Bool} {N : Nat} (hq : Eqv q N) (hs : Eqv s N) (h : finF (ptnQ q N N) (ptnQ s N N) = true) : subQ q s N := by
  intro i k hik hk h1
  obtain ⟨h2, h3⟩ := (own_iff hq hik hk).1 h1
  obtain ⟨c, hc, e⟩ := ownF_ge h2
  obtain ⟨c', hc', e'⟩ := ownF_ge (h3 ▸ h2)
  have : c' = c := by omega
  subst this
  unfold finF at h
  rw [List.all_eq_true] at h
  have hL := h _ (row_mem hc.1)
  simp only [Bool.and_eq_true, List.all_eq_true, decide_eq_true_eq, beq_iff_eq] at hL
  have a1 := hL.2 _ hc.2.1
  have a2 := hL.2 _ hc'.2.1
  exact (own_iff hs hik hk).2 ⟨a1.1, by omega⟩
theorem fin_iff {q s : Nat → Nat → Bool} {N : Nat} (hq : Eqv q N) (hs : Eqv s N) : finF (ptnQ q N N) (ptnQ s N N) = true ↔ subQ q s N := ⟨fin_sub hq hs, fin_of hs⟩
theorem prod_ptn {q s b : Nat → Nat → Bool} {N : Nat} (hq : Eqv q N) (hs : Eqv s N) (hb : ∀ i k, i < k → k < N → b i k = (q i k && s i k)) : prodF (ptnQ q N N) (ptnQ s N N) N = ptnQ b N N := by
  unfold prodF
  rw [isPtn_ptn hq.per, isPtn_ptn hs.per]
  refine ptn_cong fun i k hik hk => ?_
  rw [hb i k hik hk, Bool.eq_iff_iff, rel_iff, Bool.and_eq_true, own_iff hq hik hk, own_iff hs hik hk]
  constructor
  · rintro ⟨h1, h2, h3, h4⟩; exact ⟨⟨h1, h3⟩, h2, h4⟩
  · rintro ⟨⟨h1, h3⟩, h2, h4⟩; exact ⟨h1, h2, h3, h4⟩
end Go.Proofs.YtcenndlbhgfdfaaDoor
namespace Go.Proofs.YtcenndlbhgfdfaaDoor
open Go.RowKit
set_option linter.unusedVariables false
set_option maxRecDepth 100000

def membersUpTo (x : Int) (k : Nat) : List Int := ((List.range k).map fun (c : Nat) => (c : Int)).filter (hasc x)
def membersF (x : Int) : List Int := if stB x then membersUpTo x 5 else []
theorem membersUpTo_succ (x : Int) (k : Nat) : membersUpTo x (k + 1) = membersUpTo x k ++ (if hasc x k then [(k : Int)] else []) := by
  unfold membersUpTo
  rw [List.range_succ, List.map_append, List.filter_append]
  simp [List.filter_cons]
theorem membersUpTo_le (x : Int) (k : Nat) : (membersUpTo x k).length ≤ k := by
  have := List.length_filter_le (hasc x) ((List.range k).map fun (c : Nat) => (c : Int))
  simpa [membersUpTo] using this
theorem members_co {x : Int} : ∀ c ∈ membersF x, Co c ∧ hasc x c = true := by
  intro c hc
  unfold membersF at hc
  split at hc
  · unfold membersUpTo at hc
    obtain ⟨h1, h2⟩ := List.mem_filter.1 hc
    obtain ⟨k, hk, rfl⟩ := List.mem_map.1 h1
    have := List.mem_range.1 hk
    exact ⟨⟨by omega, by omega⟩, h2⟩
  · cases hc
theorem members_len (x : Int) : (membersF x).length ≤ 5 := by
  unfold membersF
  split
  · exact membersUpTo_le x 5
  · simp
theorem OwnI.nil (w : World) (base : Nat) : OwnI w base (.slice none 0 0) [] := World.ownsRow_nil _ _ _ _
theorem OwnI.empty (w : World) (base : Nat) (hb : base ≤ w.heap.size) : OwnI (w.alloc (.cells #[] 3)) base (.slice (some ⟨w.heap.size, 0, none⟩) 0 0) [] :=
  World.ownsRow_lit w #[] 0 hb (Nat.zero_le _) rfl
theorem encI_snoc (L : List Int) (x : Int) : (L ++ [x]).map encI = L.map encI ++ [.int .i64 x] := by simp [encI]
theorem OwnI.snoc {w : World} {base : Nat} {v : Value} {L : List Int} {x : Int} (h : w.ownsRow base 3 1 v (L.length + 1) (L.map encI ++ [.int .i64 x])) : OwnI w base v (L ++ [x]) := by
  unfold OwnI
  rw [List.length_append, encI_snoc]
  exact h

end Go.Proofs.YtcenndlbhgfdfaaDoor
