/- Contracts and lemmas for FnArmstrong, part 1 of 7. -/
import Derived.WalkKit
import Derived.WalkSpells
import Derived.BigQuiet
import Derived.Test.YtjbmpnbfiahdhaaProg
import Derived.Deep.AppendLies
namespace Go.Proofs.Ytjbmpnbfiahdhaa
open Go.RowKit

/-- A cell that is there stays as it is in every world that extends this one. -/
theorem cell_keep {w w' : World} {a : Addr} {v : Value} (h : w.cell? a = some v) (hb : Below w.heap.size w w') : w'.cell? a = some v :=
  (hb.cell (World.block_lt_of_cell? w a h)).trans h
theorem cell_after {w w' : World} {B : Nat} {a : Addr} {v : Value} (h : w.cell? a = some v) (hB : B = w.heap.size) (hb : Below B w w') : w'.cell? a = some v := by
  subst hB; exact cell_keep h hb
/-- What a new block holds, behind a call made over it. -/
theorem box_cell {w w' : World} {c : Array Value} {T : TypeId} {n : Nat} (hb : Below n (w.alloc (.cells c T)) w') (hn : n = w.heap.size + 1) (j : Nat) (v : Value) (hv : c[j]? = some v) : w'.cell? ⟨w.heap.size, j, none⟩ = some v := by
  have h0 : (w.alloc (.cells c T)).cell? ⟨w.heap.size, j, none⟩ = some v := by
    simp only [World.cell?, heap_alloc_new]; exact hv
  exact cell_after h0 (by rw [hn]; simp) hb
/-- The worlds that hold all that 'w' held, as it was. -/
def After (w : World) : Type := { w' : World // Below w.heap.size w w' }
def After.w {w : World} (x : After w) : World := x.1
theorem After.bel {w : World} (x : After w) : Below w.heap.size w x.w := x.2
theorem after_lt {w : World} (x : After w) {b : Nat} (h : b < w.heap.size) : b < x.w.heap.size := Nat.lt_of_lt_of_le h x.bel.size

theorem bel_to {w a b : World} (h : Below w.heap.size w a) (k : Below a.heap.size a b) : Below w.heap.size w b := h.trans (k.mono h.size)

/-- The contract of a function that answers 'v' and leaves what was there as it was. -/
def Ans (P : Program) (f : FuncId) (args : Array Value) (w : World) (v : Value) : Prop :=
  Calls P f args w fun e w' => e = .returned v ∧ Below w.heap.size w w'

theorem Ans.after {P : Program} {f : FuncId} {args : Array Value} {w : World} {x : After w} {v : Value} (h : Ans P f args x.w v) :
    Calls P f args x.w fun e w'' => e = .returned v ∧ ∃ y : After w, w'' = y.w :=
  Calls.mono h fun _ _ ⟨he, hb⟩ => ⟨he, ⟨_, bel_to x.bel hb⟩, rfl⟩

theorem Ans.eqb {P : Program} {f : FuncId} {args : Array Value} {w : World} {b b' : Bool} (h : Ans P f args w (.bool b)) (e : b = b') : Ans P f args w (.bool b') := e ▸ h

/-- A region that draws its order, whose operations read and whose calls answer: one walk in the text's order. -/
theorem wp_region_after {P : Program} {id : Nat} {Q : Exit → Act → World → Prop} {a : Act} {w : World} {l : List Oper} (hm : P.follows .mixedOrders = true) (hB : Region.lexB .any l.toArray = true)
    (h : wpQuiet P l.toArray (fun w' => ∃ x : After w, w' = x.w) (fun a' => ∀ w', (∃ x : After w, w' = x.w) → Q .normal a' w') l a) : (Code.region id l.toArray true).wp P Q a w :=
  wp_region_quiet (C := fun w' => ∃ x : After w, w' = x.w) hm hB ⟨⟨_, (Below.refl _ _).drew⟩, rfl⟩ (by simpa using h)

instance (w : World) : Nonempty (After w) := ⟨⟨w, Below.refl _ _⟩⟩

/-- An int list's, a list of dependencies' cells, by number. -/
def nth (L : List Int) (k : Nat) : Int := L.getD k 0
def nl (L : List (Int × Int)) (k : Nat) : Int := (L.getD k (0, 0)).1
def nr (L : List (Int × Int)) (k : Nat) : Int := (L.getD k (0, 0)).2

def Room : Nat := 1073741824
/-- An int. -/
def I64 (n : Int) : Prop := -9223372036854775808 ≤ n ∧ n ≤ 9223372036854775807

structure IntsAt (w : World) (oa : Option Addr) (L : List Int) : Prop where
  len : L.length ≤ Room
  at_ : 0 < L.length → ∃ b off, oa = some ⟨b, off, none⟩ ∧ b < w.heap.size ∧ ∀ k, k < L.length → w.cell? ⟨b, off + k, none⟩ = some (.int .i64 (nth L k))
structure DepsAt (w : World) (oa : Option Addr) (L : List (Int × Int)) : Prop where
  len : L.length ≤ Room
  at_ : 0 < L.length → ∃ b off, oa = some ⟨b, off, none⟩ ∧ b < w.heap.size ∧
    ∀ k, k < L.length → w.cell? ⟨b, off + k * 2, none⟩ = some (.int .i64 (nl L k)) ∧ w.cell? ⟨b, off + k * 2 + 1, none⟩ = some (.int .i64 (nr L k))
theorem IntsAt.keep {w w' : World} {oa : Option Addr} {L : List Int} (h : IntsAt w oa L) (hb : Below w.heap.size w w') : IntsAt w' oa L :=
  ⟨h.len, fun h0 => by
    obtain ⟨b, off, e, hlt, hc⟩ := h.at_ h0
    exact ⟨b, off, e, Nat.lt_of_lt_of_le hlt hb.size, fun k hk => by rw [hb.cell (p := ⟨b, off + k, none⟩) hlt]; exact hc k hk⟩⟩
theorem DepsAt.keep {w w' : World} {oa : Option Addr} {L : List (Int × Int)} (h : DepsAt w oa L) (hb : Below w.heap.size w w') : DepsAt w' oa L :=
  ⟨h.len, fun h0 => by
    obtain ⟨b, off, e, hlt, hc⟩ := h.at_ h0
    exact ⟨b, off, e, Nat.lt_of_lt_of_le hlt hb.size, fun k hk => by
      rw [hb.cell (p := ⟨b, off + k * 2, none⟩) hlt, hb.cell (p := ⟨b, off + k * 2 + 1, none⟩) hlt]; exact hc k hk⟩⟩
theorem lt_step {p : Nat → Prop} {k : Nat} (h : ∀ j, j < k → p j) (hk : p k) : ∀ j, j < k + 1 → p j := fun j hj => by
  rcases Nat.lt_or_ge j k with h' | h'
  · exact h j h'
  · have : j = k := by omega
    subst this; exact hk
/-- A block that is known whole. -/
def Blk (w : World) (g : Nat) (c : Array Value) (T : TypeId) : Prop := w.heap[g]? = some (.cells c T (0, 0))
theorem Blk.lt {w : World} {g : Nat} {c : Array Value} {T : TypeId} (h : Blk w g c T) : g < w.heap.size := (Array.getElem?_eq_some_iff.1 h).1
theorem Blk.cell {w : World} {g : Nat} {c : Array Value} {T : TypeId} (h : Blk w g c T) (j : Nat) (v : Value) (hv : c[j]? = some v) : w.cell? ⟨g, j, none⟩ = some v := by
  unfold Blk at h; simp only [World.cell?, h]; exact hv
theorem Blk.free {w : World} {g : Nat} {c : Array Value} {T : TypeId} (h : Blk w g c T) (j : Nat) : w.frozen? ⟨g, j, none⟩ = false := by
  unfold Blk at h; simp only [World.frozen?, h]; simp
theorem Blk.keep {w w' : World} {g : Nat} {c : Array Value} {T : TypeId} (h : Blk w g c T) (hb : Below w.heap.size w w') : Blk w' g c T := (hb.block g h.lt).trans h
theorem Blk.new (w : World) (c : Array Value) (T : TypeId) : Blk (w.alloc (.cells c T)) w.heap.size c T := heap_alloc_new w _
theorem Blk.alloc {w : World} {g : Nat} {c : Array Value} {T : TypeId} (h : Blk w g c T) (o : Obj) : Blk (w.alloc o) g c T := (Below.heap_alloc w o g h.lt).trans h
theorem Blk.drew {w : World} {g : Nat} {c : Array Value} {T : TypeId} (h : Blk w g c T) : Blk w.drew g c T := h
theorem Blk.set {w : World} {g : Nat} {c : Array Value} {T : TypeId} (h : Blk w g c T) (j : Nat) (v : Value) : Blk (w.setCell ⟨g, j, none⟩ v) g (c.setIfInBounds j v) T := heap_setCell_same w g j c T v h
theorem Blk.far {w : World} {g : Nat} {c : Array Value} {T : TypeId} (h : Blk w g c T) (a : Addr) (v : Value) (hne : g ≠ a.block) : Blk (w.setCell a v) g c T := (Below.heap_setCell w a v g hne).trans h
theorem ret_bool {a b : Bool} (h : a = b) : Ending.returned (.bool a) = .returned (.bool b) := by rw [h]
theorem ret_int {a b : Int} (h : a = b) : Ending.returned (.int .i64 a) = .returned (.int .i64 b) := by rw [h]
end Go.Proofs.Ytjbmpnbfiahdhaa
namespace Go.Proofs.Ytjbmpnbfiahdhaa
open Go.RowKit

/-- x &^ y == 0 -/
def ins (x y : Int) : Bool := bits BinOp.andNot .i64 x y == 0
/-- x & y == x -/
def insA (x y : Int) : Bool := bits BinOp.and .i64 x y == x
/-- x >> c & 1 == 1 -/
def hasc (x c : Int) : Bool := bits BinOp.and .i64 (x / 2 ^ c.toNat) 1 == 1
/-- x | y, x & y, x &^ y, 1 << c -/
def uni (x y : Int) : Int := bits BinOp.or .i64 x y
def cap (x y : Int) : Int := bits BinOp.and .i64 x y
def dif (x y : Int) : Int := bits BinOp.andNot .i64 x y
def one (c : Int) : Int := wrap64 (2 ^ c.toNat)
/-- a valid set, a valid column -/
def St (x : Int) : Prop := 0 ≤ x ∧ x < 32
def Co (c : Int) : Prop := 0 ≤ c ∧ c < 5
instance (x : Int) : Decidable (St x) := by unfold St; infer_instance
instance (x : Int) : Decidable (Co x) := by unfold Co; infer_instance

theorem st_nat {x : Int} (h : St x) : ∃ n : Nat, n < 32 ∧ x = n := ⟨x.toNat, by unfold St at h; omega, by unfold St at h; omega⟩
theorem co_nat {x : Int} (h : Co x) : ∃ n : Nat, n < 5 ∧ x = n := ⟨x.toNat, by unfold Co at h; omega, by unfold Co at h; omega⟩

theorem hasc_nat : ∀ n < 32, ∀ c < 5, hasc (n : Nat) (c : Nat) = Nat.testBit n c := by decide +kernel
theorem one_nat : ∀ c < 5, one (c : Nat) = (2 ^ c : Nat) := by decide +kernel
theorem uni_nat : ∀ n < 32, ∀ m < 32, uni (n : Nat) (m : Nat) = (n ||| m : Nat) := by decide +kernel
theorem cap_nat : ∀ n < 32, ∀ m < 32, cap (n : Nat) (m : Nat) = (n &&& m : Nat) := by decide +kernel
theorem dif_nat : ∀ n < 32, ∀ m < 32, dif (n : Nat) (m : Nat) = (n &&& (31 ^^^ m) : Nat) := by decide +kernel
theorem ins_nat : ∀ n < 32, ∀ m < 32, ins (n : Nat) (m : Nat) = (n &&& m == n) := by decide +kernel

theorem uni_st {x y : Int} (hx : St x) (hy : St y) : St (uni x y) := by
  obtain ⟨n, hn, rfl⟩ := st_nat hx; obtain ⟨m, hm, rfl⟩ := st_nat hy
  have h : ∀ n < 32, ∀ m < 32, (n ||| m) < 32 := by decide +kernel
  rw [uni_nat n hn m hm]; have := h n hn m hm; unfold St; omega
theorem cap_st {x y : Int} (hx : St x) (hy : St y) : St (cap x y) := by
  obtain ⟨n, hn, rfl⟩ := st_nat hx; obtain ⟨m, hm, rfl⟩ := st_nat hy
  have h : ∀ n < 32, ∀ m < 32, (n &&& m) < 32 := by decide +kernel
  rw [cap_nat n hn m hm]; have := h n hn m hm; unfold St; omega
theorem dif_st {x y : Int} (hx : St x) (hy : St y) : St (dif x y) := by
  obtain ⟨n, hn, rfl⟩ := st_nat hx; obtain ⟨m, hm, rfl⟩ := st_nat hy
  have h : ∀ n < 32, ∀ m < 32, (n &&& (31 ^^^ m)) < 32 := by decide +kernel
  rw [dif_nat n hn m hm]; have := h n hn m hm; unfold St; omega
theorem one_st {c : Int} (hc : Co c) : St (one c) := by
  obtain ⟨n, hn, rfl⟩ := co_nat hc
  have h : ∀ c < 5, 2 ^ c < 32 := by decide
  rw [one_nat n hn]; have := h n hn; unfold St; exact ⟨Int.natCast_nonneg _, by exact_mod_cast this⟩

theorem hasc_uni {x y c : Int} (hx : St x) (hy : St y) (hc : Co c) : hasc (uni x y) c = (hasc x c || hasc y c) := by
  obtain ⟨n, hn, rfl⟩ := st_nat hx; obtain ⟨m, hm, rfl⟩ := st_nat hy; obtain ⟨k, hk, rfl⟩ := co_nat hc
  have h : ∀ n < 32, ∀ m < 32, (n ||| m) < 32 := by decide +kernel
  rw [uni_nat n hn m hm, hasc_nat _ (h n hn m hm) k hk, hasc_nat n hn k hk, hasc_nat m hm k hk, Nat.testBit_or]
theorem hasc_cap {x y c : Int} (hx : St x) (hy : St y) (hc : Co c) : hasc (cap x y) c = (hasc x c && hasc y c) := by
  obtain ⟨n, hn, rfl⟩ := st_nat hx; obtain ⟨m, hm, rfl⟩ := st_nat hy; obtain ⟨k, hk, rfl⟩ := co_nat hc
  have h : ∀ n < 32, ∀ m < 32, (n &&& m) < 32 := by decide +kernel
  rw [cap_nat n hn m hm, hasc_nat _ (h n hn m hm) k hk, hasc_nat n hn k hk, hasc_nat m hm k hk, Nat.testBit_and]
theorem hasc_dif {x y c : Int} (hx : St x) (hy : St y) (hc : Co c) : hasc (dif x y) c = (hasc x c && !hasc y c) := by
  obtain ⟨n, hn, rfl⟩ := st_nat hx; obtain ⟨m, hm, rfl⟩ := st_nat hy; obtain ⟨k, hk, rfl⟩ := co_nat hc
  have h : ∀ n < 32, ∀ m < 32, ∀ k < 5, hasc (dif (n : Nat) (m : Nat)) (k : Nat) = (hasc (n : Nat) (k : Nat) && !hasc (m : Nat) (k : Nat)) := by decide +kernel
  exact h n hn m hm k hk
theorem hasc_one {c d : Int} (hc : Co c) (hd : Co d) : hasc (one c) d = (c == d) := by
  obtain ⟨n, hn, rfl⟩ := co_nat hc; obtain ⟨k, hk, rfl⟩ := co_nat hd
  have h : ∀ n < 5, ∀ k < 5, hasc (one (n : Nat)) (k : Nat) = (((n : Nat) : Int) == ((k : Nat) : Int)) := by decide +kernel
  exact h n hn k hk
theorem ins_iff {x y : Int} (hx : St x) (hy : St y) : ins x y = true ↔ ∀ c, Co c → hasc x c = true → hasc y c = true := by
  obtain ⟨n, hn, rfl⟩ := st_nat hx; obtain ⟨m, hm, rfl⟩ := st_nat hy
  have h : ∀ n < 32, ∀ m < 32, ins (n : Nat) (m : Nat) = true ↔ ∀ c < 5, hasc (n : Nat) (c : Nat) = true → hasc (m : Nat) (c : Nat) = true := by decide +kernel
  rw [h n hn m hm]
  exact ⟨fun h c hc => by obtain ⟨k, hk, rfl⟩ := co_nat hc; exact h k hk, fun h c hc => h c (by unfold Co; omega)⟩
theorem set_ext {x y : Int} (hx : St x) (hy : St y) (h : ∀ c, Co c → hasc x c = hasc y c) : x = y := by
  obtain ⟨n, hn, rfl⟩ := st_nat hx; obtain ⟨m, hm, rfl⟩ := st_nat hy
  have h' : ∀ n < 32, ∀ m < 32, (∀ c < 5, hasc (n : Nat) (c : Nat) = hasc (m : Nat) (c : Nat)) → n = m := by decide +kernel
  rw [h' n hn m hm (fun c hc => h c (by unfold Co; omega))]
theorem insA_eq {x y : Int} (hx : St x) (hy : St y) : insA x y = ins x y := by
  obtain ⟨n, hn, rfl⟩ := st_nat hx; obtain ⟨m, hm, rfl⟩ := st_nat hy
  have h : ∀ n < 32, ∀ m < 32, insA (n : Nat) (m : Nat) = ins (n : Nat) (m : Nat) := by decide +kernel
  exact h n hn m hm
theorem ins_refl {x : Int} (hx : St x) : ins x x = true := (ins_iff hx hx).2 fun _ _ h => h
theorem ins_trans {x y z : Int} (hx : St x) (hy : St y) (hz : St z) (h : ins x y = true) (h' : ins y z = true) : ins x z = true :=
  (ins_iff hx hz).2 fun c hc h1 => (ins_iff hy hz).1 h' c hc ((ins_iff hx hy).1 h c hc h1)
theorem ins_antisymm {x y : Int} (hx : St x) (hy : St y) (h : ins x y = true) (h' : ins y x = true) : x = y :=
  set_ext hx hy fun c hc => by
    have a := (ins_iff hx hy).1 h c hc
    have b := (ins_iff hy hx).1 h' c hc
    cases e : hasc x c <;> cases e' : hasc y c <;> simp_all
/-- x>>c&1 == 0 is the other answer. -/
def hasn (x c : Int) : Bool := bits BinOp.and .i64 (x / 2 ^ c.toNat) 1 == 0
theorem hasn_eq {x c : Int} (hx : St x) (hc : Co c) : hasn x c = !hasc x c := by
  obtain ⟨n, hn, rfl⟩ := st_nat hx; obtain ⟨k, hk, rfl⟩ := co_nat hc
  have h : ∀ n < 32, ∀ k < 5, hasn (n : Nat) (k : Nat) = !hasc (n : Nat) (k : Nat) := by decide +kernel
  exact h n hn k hk
theorem uni_lt {x c : Int} (hx : St x) (hc : Co c) (h : hasc x c = false) : x < uni x (one c) := by
  obtain ⟨n, hn, rfl⟩ := st_nat hx; obtain ⟨k, hk, rfl⟩ := co_nat hc
  have h' : ∀ n < 32, ∀ k < 5, hasc (n : Nat) (k : Nat) = false → ((n : Nat) : Int) < uni (n : Nat) (one (k : Nat)) := by decide +kernel
  exact h' n hn k hk h
end Go.Proofs.Ytjbmpnbfiahdhaa
namespace Go.Proofs.Ytjbmpnbfiahdhaa
open Go.RowKit
set_option linter.unusedVariables false
set_option maxRecDepth 100000

def inB (x lo hi : Int) : Bool := decide (lo ≤ x) && decide (x ≤ hi)
def isAttr (n x : Int) : Bool := decide (0 ≤ n) && decide (n ≤ 5) && decide (0 ≤ x) && decide (x < 2 ^ n.toNat)
def stB (x : Int) : Bool := decide (St x)
def allM (n : Int) : Int := 2 ^ n.toNat - 1

theorem pow_wrap {n : Int} (h0 : 0 ≤ n) (h5 : n ≤ 5) : wrap64 (2 ^ n.toNat) = 2 ^ n.toNat ∧ (2 : Int) ^ n.toNat ≤ 32 ∧ 1 ≤ (2 : Int) ^ n.toNat := by
  obtain ⟨m, rfl⟩ := Int.eq_ofNat_of_zero_le h0
  have h : ∀ m < 6, wrap64 (2 ^ ((m : Nat) : Int).toNat) = 2 ^ ((m : Nat) : Int).toNat ∧ (2 : Int) ^ ((m : Nat) : Int).toNat ≤ 32 ∧ 1 ≤ (2 : Int) ^ ((m : Nat) : Int).toNat := by decide +kernel
  exact h m (by omega)
theorem isAttr_5 (x : Int) : isAttr 5 x = stB x := by
  unfold isAttr stB St
  have : (2 : Int) ^ (5 : Int).toNat = 32 := by decide
  rw [this]
  by_cases h : 0 ≤ x <;> by_cases h' : x < 32 <;> simp [h, h']

theorem c_inside (x y : Int) (w : World) : Ans Try.prog 106 #[.int .i64 x, .int .i64 y] w (.bool (ins x y)) := by
  unfold Ans
  go_enter Try.func106, Try.ntmps106
  go_wp2
  go_ret
  exact ⟨rfl, Below.refl _ _⟩
theorem c_has (x c : Int) (hc : 0 ≤ c ∧ c < 64) (w : World) : Ans Try.prog 105 #[.int .i64 x, .int .i64 c] w (.bool (hasc x c)) := by
  unfold Ans
  go_enter Try.func105, Try.ntmps105
  go_wp2
  go_ret
  exact ⟨rfl, Below.refl _ _⟩
theorem c_l1In (x lo hi : Int) (w : World) : Ans Try.prog 109 #[.int .i64 x, .int .i64 lo, .int .i64 hi] w (.bool (inB x lo hi)) := by
  unfold Ans
  go_enter Try.func109, Try.ntmps109
  go_wp2
  all_goals go_ret
  all_goals exact ⟨ret_bool (by simp [inB]; omega), Below.refl _ _⟩
theorem c_l2All (n : Int) (hn : 0 ≤ n ∧ n ≤ 5) (w : World) : Ans Try.prog 80 #[.int .i64 n] w (.int .i64 (allM n)) := by
  unfold Ans
  have hp := pow_wrap hn.1 hn.2
  have hp1 := hp.1
  have hp2 := hp.2.1
  have hp3 := hp.2.2
  clear hp
  go_enter Try.func80, Try.ntmps80
  go_wp2
  go_ret
  exact ⟨rfl, Below.refl _ _⟩
theorem c_isAttributes (n x : Int) (w : World) : Ans Try.prog 116 #[.int .i64 n, .int .i64 x] w (.bool (isAttr n x)) := by
  unfold Ans
  go_enter Try.func116, Try.ntmps116
  go_wp2
  all_goals go_ret
  all_goals refine ⟨ret_bool ?_, Below.refl _ _⟩
  · have h0 : 0 ≤ n := by assumption
    have h5 : n ≤ 5 := by assumption
    have hx : 0 ≤ x := by assumption
    rw [(pow_wrap h0 h5).1]
    simp [isAttr, h0, h5, hx]
  all_goals (simp [isAttr]; omega)
theorem c_isSet (x : Int) (w : World) : Ans Try.prog 125 #[.int .i64 x] w (.bool (stB x)) := by
  unfold Ans
  have hb := Below.refl w.heap.size w
  go_enter Try.func125, Try.ntmps125
  go_wp2_with (first | (go_at_call 116; refine Calls.mono (c_isAttributes _ _ _) ?_; rintro e w1 ⟨rfl, hbn⟩; replace hb := bel_to (w := w) (by first | exact hb | exact hb.alloc hb.size _ | exact (hb.alloc hb.size _).alloc (Nat.le_trans hb.size (by simp)) _ | exact hb.setCell (by simp [hb.size]) _) hbn; clear hbn))
  go_ret
  exact ⟨ret_bool (isAttr_5 x), hb⟩
theorem c_specIsAttributes (n x : Int) (w : World) : Ans Try.prog 49 #[.int .i64 n, .int .i64 x] w (.bool (isAttr n x)) := by
  unfold Ans
  have hb := Below.refl w.heap.size w
  by_cases h : 0 ≤ n ∧ n ≤ 5
  · have hin : inB n 0 5 = true := by simp [inB, h]
    have hp := (pow_wrap h.1 h.2).2
    go_enter Try.func49, Try.ntmps49
    go_wp2_with (first | (go_at_call 109; refine Calls.mono (c_l1In _ _ _ _) ?_; rintro e w1 ⟨rfl, hbn⟩; replace hb := bel_to (w := w) (by first | exact hb | exact hb.alloc hb.size _ | exact (hb.alloc hb.size _).alloc (Nat.le_trans hb.size (by simp)) _ | exact hb.setCell (by simp [hb.size]) _) hbn; clear hbn) | (go_at_call 80; refine Calls.mono (c_l2All _ h _) ?_; rintro e w1 ⟨rfl, hbn⟩; replace hb := bel_to (w := w) (by first | exact hb | exact hb.alloc hb.size _ | exact (hb.alloc hb.size _).alloc (Nat.le_trans hb.size (by simp)) _ | exact hb.setCell (by simp [hb.size]) _) hbn; clear hbn))
    go_ret
    have e : decide (x ≤ 2 ^ n.toNat - 1) = decide (x < 2 ^ n.toNat) := by generalize (2 : Int) ^ n.toNat = p; rw [decide_eq_decide]; omega
    exact ⟨ret_bool (by unfold inB isAttr allM; rw [e, decide_eq_true h.1, decide_eq_true h.2]; simp), hb⟩
  · have hin : inB n 0 5 = false := by simp [inB]; omega
    go_enter Try.func49, Try.ntmps49
    go_wp2_with (first | (go_at_call 109; refine Calls.mono (c_l1In _ _ _ _) ?_; rintro e w1 ⟨rfl, hbn⟩; replace hb := bel_to (w := w) (by first | exact hb | exact hb.alloc hb.size _ | exact (hb.alloc hb.size _).alloc (Nat.le_trans hb.size (by simp)) _ | exact hb.setCell (by simp [hb.size]) _) hbn; clear hbn))
    go_ret
    exact ⟨ret_bool (by simp [isAttr]; omega), hb⟩
theorem c_l2Valid (x : Int) (w : World) : Ans Try.prog 176 #[.int .i64 x] w (.bool (stB x)) := by
  unfold Ans
  have hb := Below.refl w.heap.size w
  go_enter Try.func176, Try.ntmps176
  go_wp2_with (first | (go_at_call 49; refine Calls.mono (c_specIsAttributes _ _ _) ?_; rintro e w1 ⟨rfl, hbn⟩; replace hb := bel_to (w := w) (by first | exact hb | exact hb.alloc hb.size _ | exact (hb.alloc hb.size _).alloc (Nat.le_trans hb.size (by simp)) _ | exact hb.setCell (by simp [hb.size]) _) hbn; clear hbn))
  go_ret
  exact ⟨ret_bool (isAttr_5 x), hb⟩
end Go.Proofs.Ytjbmpnbfiahdhaa
namespace Go.Proofs.Ytjbmpnbfiahdhaa
open Go.RowKit
set_option linter.unusedVariables false
set_option maxRecDepth 100000

def encI (x : Int) : Value := .int .i64 x
/-- 'v' is a slice of ints of the call's own (made from block 'base' on) that reads as L. -/
def OwnI (w : World) (base : Nat) (v : Value) (L : List Int) : Prop := w.ownsRow base 3 1 v L.length (L.map encI)

theorem below_grown {w w' : World} {row : Option Nat} {B : Nat} (hg : w.grownBy w' row) (hB : B ≤ w.heap.size) (hr : ∀ k, row = some k → B ≤ k) : Below B w w' :=
  (Below.refl B w).grown hg hB hr

theorem owns_keep {w w' : World} {base : Nat} {e : TypeId} {size : Nat} {v : Value} {n : Nat} {xs : List Value} (h : w.ownsRow base e size v n xs) (hb : Below w.heap.size w w') : w'.ownsRow base e size v n xs := by
  refine ⟨h.1, ?_⟩
  rcases h.2 with hn | ⟨g, cap, cur, rfl, hbg, hgg, rest⟩
  · exact .inl hn
  · exact .inr ⟨g, cap, cur, rfl, hbg, by rw [hb.block g (Array.getElem?_eq_some_iff.1 hgg).1]; exact hgg, rest⟩
theorem owns_base {w : World} {base base' : Nat} {e : TypeId} {size : Nat} {v : Value} {n : Nat} {xs : List Value} (h : w.ownsRow base e size v n xs) (hb : base' ≤ base) : w.ownsRow base' e size v n xs := by
  refine ⟨h.1, ?_⟩
  rcases h.2 with hn | ⟨g, cap, cur, rfl, hbg, rest⟩
  · exact .inl hn
  · exact .inr ⟨g, cap, cur, rfl, by omega, rest⟩
/-- The shape of a slice that is owned, and its cells. -/
theorem owns_cells {w : World} {base : Nat} {e : TypeId} {size : Nat} {v : Value} {n : Nat} {xs : List Value} (h : w.ownsRow base e size v n xs) :
    ∃ oa cap, v = .slice oa n cap ∧ (0 < n → ∃ g, oa = some ⟨g, 0, none⟩ ∧ base ≤ g ∧ g < w.heap.size ∧ n ≤ cap ∧ (∀ j, j < n * size → w.cell? ⟨g, j, none⟩ = xs[j]?) ∧ (∀ j, w.frozen? ⟨g, j, none⟩ = false)) := by
  have h' := h
  rcases h.2 with ⟨rfl, rfl⟩ | ⟨g, cap, cur, rfl, hbg, hgg, hc, _⟩
  · exact ⟨none, 0, rfl, fun h => absurd h (by omega)⟩
  · exact ⟨_, cap, rfl, fun _ => ⟨g, rfl, hbg, (Array.getElem?_eq_some_iff.1 hgg).1, hc, fun j hj => h'.cellAt j hj, fun j => h'.frozenAt j⟩⟩

theorem OwnI.keep {w w' : World} {base : Nat} {v : Value} {L : List Int} (h : OwnI w base v L) (hb : Below w.heap.size w w') : OwnI w' base v L := owns_keep h hb
theorem OwnI.reads {w : World} {base : Nat} {v : Value} {L : List Int} (h : OwnI w base v L) (hl : L.length ≤ Room) :
    ∃ oa cap, v = .slice oa L.length cap ∧ IntsAt w oa L := by
  obtain ⟨oa, cap, hv, hc⟩ := owns_cells h
  refine ⟨oa, cap, hv, hl, fun h0 => ?_⟩
  obtain ⟨g, ha, hbg, hlt, _, hcell, _⟩ := hc h0
  refine ⟨g, 0, ha, hlt, fun k hk => ?_⟩
  rw [Nat.zero_add, hcell k (by omega), List.getElem?_map, List.getElem?_eq_getElem hk]
  simp [encI, nth, List.getD, List.getElem?_eq_getElem hk]

theorem owns_block {w : World} {base : Nat} {e : TypeId} {size : Nat} {oa : Option Addr} {n m cap : Nat} {xs : List Value} (h : w.ownsRow base e size (.slice oa n cap) m xs) : ∀ a, oa = some a → base ≤ a.block := by
  intro a ha
  subst ha
  exact (World.ownsRow.lt h a.block rfl).1
theorem IntsAt.set {w : World} {oa : Option Addr} {L : List Int} (h : IntsAt w oa L) (p : Addr) (v : Value) (hne : ∀ a, oa = some a → a.block ≠ p.block) : IntsAt (w.setCell p v) oa L :=
  ⟨h.len, fun h0 => by
    obtain ⟨b, off, e, hlt, hc⟩ := h.at_ h0
    have hb : b ≠ p.block := hne _ e
    exact ⟨b, off, e, by simpa using hlt, fun k hk => by
      have : (w.setCell p v).heap[b]? = w.heap[b]? := Below.heap_setCell w p v b hb
      rw [World.cell?_of_block (w := w) (a := ⟨b, off + k, none⟩) this]; exact hc k hk⟩⟩
theorem nth_eq {L : List Int} {k : Nat} (hk : k < L.length) : L[k]? = some (nth L k) := by
  simp [nth, List.getD, List.getElem?_eq_getElem hk]
theorem list_ext {L M : List Int} (hl : L.length = M.length) (h : ∀ k, k < L.length → nth L k = nth M k) : L = M := by
  apply List.ext_getElem? 
  intro k
  by_cases hk : k < L.length
  · rw [nth_eq hk, nth_eq (by omega), h k hk]
  · rw [List.getElem?_eq_none (by omega), List.getElem?_eq_none (by omega)]
theorem nth_set {L : List Int} {j k : Nat} {x : Int} (hj : j < L.length) : nth (L.set j x) k = if k = j then x else nth L k := by
  unfold nth List.getD
  rw [List.getElem?_set]
  by_cases h : j = k
  · subst h; simp [hj]
  · rw [if_neg h, if_neg (by omega)]
theorem OwnI.store {w : World} {base g : Nat} {n cap : Nat} {L : List Int} (h : OwnI w base (.slice (some ⟨g, 0, none⟩) n cap) L) (hn : n = L.length) (j : Nat) (x : Int) :
    OwnI (w.setCell ⟨g, j, none⟩ (.int .i64 x)) base (.slice (some ⟨g, 0, none⟩) n cap) (L.set j x) := by
  subst hn
  have := (h.stored j (.int .i64 x)).1
  unfold OwnI
  rw [List.length_set, List.map_set]
  exact this
theorem OwnI.cell {w : World} {base g : Nat} {n cap : Nat} {L : List Int} (h : OwnI w base (.slice (some ⟨g, 0, none⟩) n cap) L) (hn : n = L.length) (j : Nat) (hj : j < n) :
    w.cell? ⟨g, j, none⟩ = some (.int .i64 (nth L j)) ∧ w.frozen? ⟨g, j, none⟩ = false := by
  subst hn
  refine ⟨?_, h.frozenAt j⟩
  rw [h.cellAt j (by omega), List.getElem?_map, nth_eq hj]; rfl

/-- A slice of ints that came in, as the row's shell hands it over. -/
def IsRow (k : IntKind) (w : World) (a : Option Addr) (len cap : Nat) (zs : List Int) : Prop :=
  (a = none ∧ len = 0 ∧ cap = 0 ∧ zs = []) ∨
  ∃ x, a = some x ∧ len ≤ cap ∧ cap ≤ maxLen ∧ zs.length = cap ∧ (∀ i, i < zs.length → w.cell? (x.add i) = some (.int k (zs.getD i 0))) ∧ ∀ n ∈ zs, (Lit.int k n).wf = true
/-- A slice of ints that came in: it has some length, and reads as a list if that is not beyond all bounds. -/
def InInts (w : World) (v : Value) : Prop := ∃ a len cap zs, v = .slice a len cap ∧ IsRow .i64 w a len cap zs
theorem IsRow.ints {w : World} {a : Option Addr} {len cap : Nat} {zs : List Int} (h : IsRow .i64 w a len cap zs) (hr : len ≤ Room) : ∃ L : List Int, L.length = len ∧ IntsAt w a L := by
  rcases h with ⟨rfl, rfl, rfl, rfl⟩ | ⟨x, rfl, hl, hm, hz, hcell, hwz⟩
  · exact ⟨[], rfl, by simp, fun h => absurd h (by simp)⟩
  · refine ⟨zs.take len, by rw [List.length_take]; omega, by rw [List.length_take]; omega, fun h0 => ?_⟩
    rw [List.length_take] at h0
    obtain ⟨b, off, spot⟩ := x
    have hc := hcell 0 (by omega)
    have hspot : spot = none := by simpa [Addr.add] using World.cell?_spot hc
    subst hspot
    refine ⟨b, off, rfl, World.block_lt_of_cell? w ⟨b, off, none⟩ (by simpa [Addr.add] using hc), fun k hk => ?_⟩
    rw [List.length_take] at hk
    have := hcell k (by omega)
    have e : (⟨b, off, none⟩ : Addr).add k = ⟨b, off + k, none⟩ := by unfold Addr.add; split <;> simp_all
    rw [e] at this
    rw [this]
    simp [nth, List.getD, (show k < len by omega)]
theorem bne_false {a b : Int} (h : a = b) : (a != b) = false := by simp [h]
theorem bne_true {a b : Int} (h : a ≠ b) : (a != b) = true := by simp [h]

theorem ownI_made {w : World} {base : Nat} {v : Value} {n : Nat} (h : w.ownsRow base 3 1 v n (madeCells (Value.cells (.int .i64 0)) (n * 1)).toList) : OwnI w base v (List.replicate n 0) := by
  have e : (madeCells (Value.cells (.int .i64 0)) (n * 1)).toList = (List.replicate n (0 : Int)).map encI := by
    rw [Nat.mul_one]
    have : (Value.cells (.int .i64 0)) = #[Value.int .i64 0] := rfl
    rw [this, toList_madeCells_one, List.map_replicate]; rfl
  rw [e] at h
  unfold OwnI
  rw [List.length_replicate]
  exact h

theorem info_int : (Try.prog.info? 3).map (fun i => (i.zero, i.size, i.bytes)) = some (some (.int .i64 0), 1, 8) := by kernel_rfl
end Go.Proofs.Ytjbmpnbfiahdhaa
namespace Go.Proofs.Ytjbmpnbfiahdhaa
open Go.RowKit
set_option linter.unusedVariables false
set_option maxRecDepth 100000

theorem c_eqIntS (oa ob) (ca cb : Nat) (L M : List Int) (w : World) (hL : IntsAt w oa L) (hM : IntsAt w ob M) :
    Ans Try.prog 155 #[.slice oa L.length ca, .slice ob M.length cb] w (.bool (decide (L = M))) := by
  unfold Ans
  have hn : L.length ≤ 1073741824 := hL.len
  by_cases hlen : L.length = M.length
  · have hb0 : ((L.length : Int) != (M.length : Int)) = false := bne_false (by omega)
    have HL : Hid (L.length = M.length) := hlen
    have hlm : L.length ≤ M.length := by omega
    clear hlen
    go_enter Try.func155, Try.ntmps155
    go_wp2
    go_loopw [5] (fun i wr => ∃ k : Nat, i = .int .i64 k ∧ k ≤ L.length ∧ (∀ j, j < k → nth L j = nth M j) ∧ Below w.heap.size w wr) (fun i _ => L.length - (intOf i).toNat)
    case atStart => exact ⟨0, rfl, Nat.zero_le _, fun j hj => absurd hj (by omega), Below.refl _ _⟩
    case round =>
      obtain ⟨k, rfl, hk, hall, hb⟩ := hrel
      have HA : Hid (∀ j, j < k → nth L j = nth M j) := hall
      clear hall
      by_cases hlt : k < L.length
      · obtain ⟨b, off, rfl, hbs, hc⟩ := hL.at_ (by omega)
        obtain ⟨b', off', rfl, hbs', hc'⟩ := hM.at_ (by omega)
        have hc1 := cell_keep (hc k hlt) hb
        have hc2 := cell_keep (hc' k (by omega)) hb
        clear hc hc'
        by_cases he : nth L k = nth M k
        · have hne := bne_false he
          have HE : Hid (nth L k = nth M k) := he
          clear he
          go_wp2_with fail
          (refine wp_region_after (by kernel_rfl) (by kernel_rfl) ?_; have q_hc1 := fun (x : After _) => cell_keep hc1 x.bel; have q_hc2 := fun (x : After _) => cell_keep hc2 x.bel; (repeat (go_big_quiet_step (fail))); clear q_hc1; clear q_hc2; refine wpQuiet_nil ?_; rintro _ ⟨⟨w1, hbn⟩, rfl⟩; (try simp only [After.w]); replace hc1 := cell_keep hc1 hbn; replace hc2 := cell_keep hc2 hbn; replace hb := bel_to (w := w) (by first | exact hb | exact hb.alloc hb.size _ | exact (hb.alloc hb.size _).alloc (Nat.le_trans hb.size (by simp)) _ | exact hb.setCell (by simp [hb.size]) _) hbn; clear hbn)
          go_wp2
          go_roundw
          case rel => exact ⟨k + 1, by go_num, by omega, lt_step HA.out HE.out, hb⟩
          case measure => simp [intOf]; omega
        · have hne := bne_true he
          go_wp2_with fail
          (refine wp_region_after (by kernel_rfl) (by kernel_rfl) ?_; have q_hc1 := fun (x : After _) => cell_keep hc1 x.bel; have q_hc2 := fun (x : After _) => cell_keep hc2 x.bel; (repeat (go_big_quiet_step (fail))); clear q_hc1; clear q_hc2; refine wpQuiet_nil ?_; rintro _ ⟨⟨w1, hbn⟩, rfl⟩; (try simp only [After.w]); replace hc1 := cell_keep hc1 hbn; replace hc2 := cell_keep hc2 hbn; replace hb := bel_to (w := w) (by first | exact hb | exact hb.alloc hb.size _ | exact (hb.alloc hb.size _).alloc (Nat.le_trans hb.size (by simp)) _ | exact hb.setCell (by simp [hb.size]) _) hbn; clear hbn)
          go_wp2
          go_ret
          exact ⟨ret_bool (by symm; rw [decide_eq_false_iff_not]; intro e; exact he (by rw [e])), hb⟩
      · have hkk : k = L.length := by omega
        have HK := Hid (k = L.length)
        clear hkk
        go_wp2
        go_ret
        exact ⟨ret_bool (by symm; rw [decide_eq_true_iff]; exact list_ext HL.out fun j hj => HA.out j (by omega)), hb⟩
  · have hb0 : ((L.length : Int) != (M.length : Int)) = true := bne_true (by omega)
    go_enter Try.func155, Try.ntmps155
    go_wp2
    go_ret
    exact ⟨ret_bool (by symm; rw [decide_eq_false_iff_not]; intro e; exact hlen (by rw [e])), Below.refl _ _⟩
theorem c_toIntS (oa) (ca : Nat) (L : List Int) (w : World) (hL : IntsAt w oa L) :
    Calls Try.prog 160 #[.slice oa L.length ca] w fun e w' => ∃ v, e = .returned v ∧ OwnI w' w.heap.size v L ∧ Below w.heap.size w w' := by
  have hn : L.length ≤ 1073741824 := hL.len
  obtain ⟨i0, hi, hz0, hz1, hz2⟩ := info_parts info_int
  go_enter Try.func160, Try.ntmps160
  go_wp2_with (first | (at_make; refine wpList_make_full _ rfl _ _ 68 rfl w.heap.size 3 i0 (.int .i64 0) 1 Try.underlying68 hi hz0 hz1 .i64 .i64 _ _ L.length rfl rfl rfl rfl (by rw [hz2]; omega) (by unfold maxLen; omega) (Nat.le_refl _) ?_; intro w1 hown hgrow))
  have hI := ownI_made hown
  have hb1 : Below w.heap.size w w1 := below_grown hgrow (Nat.le_refl _) (by simp)
  clear hown hgrow hi hz0 hz1 hz2 i0
  go_loopw [4] (fun i wr => ∃ (k : Nat) (M : List Int), i = .int .i64 k ∧ k ≤ L.length ∧ M.length = L.length ∧ (∀ j, j < k → nth M j = nth L j) ∧
      OwnI wr w.heap.size (.slice (some ⟨w.heap.size, 0, none⟩) L.length L.length) M ∧ Below w.heap.size w wr) (fun i _ => L.length - (intOf i).toNat)
  case atStart => exact ⟨0, _, rfl, Nat.zero_le _, by simp, fun j hj => absurd hj (by omega), hI, hb1⟩
  case round =>
    clear hI hb1
    obtain ⟨k, M, rfl, hk, hM, hall, hI, hb⟩ := hrel
    have HM : Hid (M.length = L.length) := hM
    have HA : Hid (∀ j, j < k → nth M j = nth L j) := hall
    clear hall hM
    by_cases hlt : k < L.length
    · obtain ⟨b, off, rfl, hbs, hc⟩ := hL.at_ (by omega)
      have hc1 := cell_keep (hc k hlt) hb
      obtain ⟨hg1, hg2⟩ := hI.cell HM.out.symm k hlt
      have hI2 := hI.store HM.out.symm k (nth L k)
      have HI2 := (show Hid _ from hI2)
      clear hc hI2
      go_wp2
      go_roundw
      case rel =>
        refine ⟨k + 1, M.set k (nth L k), by go_num, by omega, by rw [List.length_set]; exact HM.out, ?_, HI2.out, hb.setCell (Nat.le_refl _) _⟩
        intro j hj
        rw [nth_set (by have := HM.out; omega)]
        split
        · next h => rw [h]
        · exact HA.out j (by omega)
      case measure => simp [intOf]; omega
    · have hkk : k = L.length := by omega
      have HK : Hid (k = L.length) := hkk
      clear hkk
      go_wp2
      go_ret
      have : M = L := list_ext HM.out fun j hj => HA.out j (by have := HM.out; have := HK.out; omega)
      subst this
      exact ⟨_, rfl, hI, hb⟩
end Go.Proofs.Ytjbmpnbfiahdhaa
namespace Go.Proofs.Ytjbmpnbfiahdhaa
open Go.RowKit
set_option linter.unusedVariables false
set_option maxRecDepth 100000

def isDepF (n : Int) (l r : Int) : Bool := decide (1 ≤ n) && isAttr n l && decide (0 ≤ r) && decide (r < n)
def dv (l r : Int) : Value := .agg #[.int .i64 l, .int .i64 r]

theorem c_isDep (n l r : Int) (w : World) : Ans Try.prog 59 #[.int .i64 n, .agg #[.int .i64 l, .int .i64 r]] w (.bool (isDepF n l r)) := by
  unfold Ans
  have hb := Below.refl w.heap.size w
  by_cases h1 : 1 ≤ n
  · cases ha : isAttr n l
    · go_enter Try.func59, Try.ntmps59
      go_wp2_with (first | (go_at_call 116; refine Calls.mono (c_isAttributes _ _ _) ?_; rintro e w1 ⟨rfl, hbn⟩; replace hb := bel_to (w := w) (by first | exact hb | exact hb.alloc hb.size _ | exact (hb.alloc hb.size _).alloc (Nat.le_trans hb.size (by simp)) _ | exact hb.setCell (by simp [hb.size]) _) hbn; clear hbn))
      go_ret
      exact ⟨ret_bool (by simp [isDepF, ha]), hb⟩
    · go_enter Try.func59, Try.ntmps59
      go_wp2_with (first | (go_at_call 116; refine Calls.mono (c_isAttributes _ _ _) ?_; rintro e w1 ⟨rfl, hbn⟩; have b0 := box_cell hbn (by simp) 0 _ rfl; have b1 := box_cell hbn (by simp) 1 _ rfl; replace hb := bel_to (w := w) (by first | exact hb | exact hb.alloc hb.size _ | exact (hb.alloc hb.size _).alloc (Nat.le_trans hb.size (by simp)) _ | exact hb.setCell (by simp [hb.size]) _) hbn; clear hbn))
      all_goals go_ret
      all_goals exact ⟨ret_bool (by simp [isDepF, ha, h1]; omega), hb⟩
  · go_enter Try.func59, Try.ntmps59
    go_wp2
    go_ret
    exact ⟨ret_bool (by simp [isDepF]; omega), hb.alloc hb.size _⟩
theorem c_specIsDep (n l r : Int) (w : World) : Ans Try.prog 38 #[.int .i64 n, .agg #[.int .i64 l, .int .i64 r]] w (.bool (isDepF n l r)) := by
  unfold Ans
  have hb := Below.refl w.heap.size w
  cases h1 : inB n 1 5
  · go_enter Try.func38, Try.ntmps38
    go_wp2_with (first | (go_at_call 109; refine Calls.mono (c_l1In _ _ _ _) ?_; rintro e w1 ⟨rfl, hbn⟩; replace hb := bel_to (w := w) (by first | exact hb | exact hb.alloc hb.size _ | exact (hb.alloc hb.size _).alloc (Nat.le_trans hb.size (by simp)) _ | exact hb.setCell (by simp [hb.size]) _) hbn; clear hbn))
    go_ret
    exact ⟨ret_bool (by simp [isDepF, inB, isAttr] at h1 ⊢; omega), hb⟩
  · have h2 : 1 ≤ n ∧ n ≤ 5 := by simpa [inB] using h1
    cases ha : isAttr n l
    · go_enter Try.func38, Try.ntmps38
      go_wp2_with (first | (go_at_call 109; refine Calls.mono (c_l1In _ _ _ _) ?_; rintro e w1 ⟨rfl, hbn⟩; have b0 := box_cell hbn (by simp) 0 _ rfl; have b1 := box_cell hbn (by simp) 1 _ rfl; replace hb := bel_to (w := w) (by exact hb.alloc hb.size _) hbn; clear hbn) | (go_at_call 49; refine Calls.mono (c_specIsAttributes _ _ _) ?_; rintro e w1 ⟨rfl, hbn⟩; replace hb := bel_to (w := w) (by first | exact hb | exact hb.alloc hb.size _ | exact (hb.alloc hb.size _).alloc (Nat.le_trans hb.size (by simp)) _ | exact hb.setCell (by simp [hb.size]) _) hbn; clear hbn))
      go_ret
      exact ⟨ret_bool (by simp [isDepF, ha]), hb⟩
    · go_enter Try.func38, Try.ntmps38
      go_wp2_with fail
      refine Calls.mono (c_l1In _ _ _ _) ?_
      rintro e w1 ⟨rfl, hbn⟩
      have b0 := box_cell hbn (by simp) 0 _ rfl
      have b1 := box_cell hbn (by simp) 1 _ rfl
      replace hb := bel_to (w := w) (hb.alloc hb.size _) hbn
      clear hbn
      go_wp2_with (first | (go_at_call 49; refine Calls.mono (c_specIsAttributes _ _ _) ?_; rintro e w1 ⟨rfl, hbn⟩; replace b0 := cell_keep b0 hbn; replace b1 := cell_keep b1 hbn; replace hb := bel_to (w := w) (by first | exact hb | exact hb.alloc hb.size _ | exact (hb.alloc hb.size _).alloc (Nat.le_trans hb.size (by simp)) _ | exact hb.setCell (by simp [hb.size]) _) hbn; clear hbn) | (go_at_call 109; refine Calls.mono (c_l1In _ _ _ _) ?_; rintro e w1 ⟨rfl, hbn⟩; replace hb := bel_to (w := w) (by first | exact hb | exact hb.alloc hb.size _ | exact (hb.alloc hb.size _).alloc (Nat.le_trans hb.size (by simp)) _ | exact hb.setCell (by simp [hb.size]) _) hbn; clear hbn))
      go_ret
      exact ⟨ret_bool (by rw [Bool.eq_iff_iff]; simp [isDepF, ha, inB, h2.1]; omega), hb⟩

def areDepsF (n : Int) (D : List (Int × Int)) : Bool := D.all (fun d => isDepF n d.1 d.2) && (decide (1 ≤ n) && decide (n ≤ 5) && decide (D.length ≤ 20))

theorem dnth_eq {L : List (Int × Int)} {k : Nat} (hk : k < L.length) : L[k]? = some (nl L k, nr L k) := by
  simp [nl, nr, List.getD, List.getElem?_eq_getElem hk]
theorem dall_take_succ (p : Int × Int → Bool) (L : List (Int × Int)) (k : Nat) (hk : k < L.length) : (L.take (k + 1)).all p = ((L.take k).all p && p (nl L k, nr L k)) := by
  rw [List.take_add_one, dnth_eq hk]; simp
theorem dall_false (p : Int × Int → Bool) (L : List (Int × Int)) (k : Nat) (hk : k < L.length) (h : p (nl L k, nr L k) = false) : L.all p = false := by
  rw [List.all_eq_false]
  exact ⟨_, List.mem_iff_getElem?.2 ⟨k, dnth_eq hk⟩, by simp [h]⟩

theorem c_AreDeps (n : Int) (oa) (cap : Nat) (D : List (Int × Int)) (w : World) (hD : DepsAt w oa D) :
    Ans Try.prog 82 #[.int .i64 n, .slice oa D.length cap] w (.bool (areDepsF n D)) := by
  unfold Ans
  have hn : D.length ≤ 1073741824 := hD.len
  go_enter Try.func82, Try.ntmps82
  go_wp2
  go_loopw [9] (fun i wr => ∃ k : Nat, i = .int .i64 k ∧ k ≤ D.length ∧ (D.take k).all (fun d => isDepF n d.1 d.2) = true ∧ Below w.heap.size w wr) (fun i _ => D.length - (intOf i).toNat)
  case atStart => exact ⟨0, rfl, Nat.zero_le _, by simp, Below.refl _ _⟩
  case round =>
    obtain ⟨k, rfl, hk, hall, hb⟩ := hrel
    have HA : Hid ((D.take k).all (fun d => isDepF n d.1 d.2) = true) := hall
    clear hall
    by_cases hlt : k < D.length
    · obtain ⟨b, off, rfl, hbs, hc⟩ := hD.at_ (by omega)
      have hc1 := cell_keep (hc k hlt).1 hb
      have hc2 := cell_keep (hc k hlt).2 hb
      have HT : Hid ((D.take (k + 1)).all (fun d => isDepF n d.1 d.2) = ((D.take k).all (fun d => isDepF n d.1 d.2) && isDepF n (nl D k) (nr D k))) := dall_take_succ (fun d => isDepF n d.1 d.2) D k hlt
      have HF : Hid (isDepF n (nl D k) (nr D k) = false → D.all (fun d => isDepF n d.1 d.2) = false) := dall_false (fun d => isDepF n d.1 d.2) D k hlt
      clear hc
      cases hst : isDepF n (nl D k) (nr D k)
      · go_wp2_with (first | (go_at_call 59; refine Calls.mono (c_isDep _ _ _ _) ?_; rintro e w1 ⟨rfl, hbn⟩; replace hb := bel_to (w := w) (by first | exact hb | exact hb.alloc hb.size _ | exact (hb.alloc hb.size _).alloc (Nat.le_trans hb.size (by simp)) _ | exact hb.setCell (by simp [hb.size]) _) hbn; clear hbn))
        go_ret
        exact ⟨ret_bool (by unfold areDepsF; rw [HF.out hst]; rfl), hb⟩
      · go_wp2_with (first | (go_at_call 59; refine Calls.mono (c_isDep _ _ _ _) ?_; rintro e w1 ⟨rfl, hbn⟩; replace hb := bel_to (w := w) (by first | exact hb | exact hb.alloc hb.size _ | exact (hb.alloc hb.size _).alloc (Nat.le_trans hb.size (by simp)) _ | exact hb.setCell (by simp [hb.size]) _) hbn; clear hbn))
        go_roundw
        case rel => exact ⟨k + 1, by go_num, by omega, by rw [HT.out, HA.out, hst]; rfl, hb⟩
        case measure => simp [intOf]; omega
    · have hkk : k = D.length := by omega
      have HS : Hid (D.all (fun d => isDepF n d.1 d.2) = true) := by have := HA.out; rw [hkk, List.take_length] at this; exact this
      clear hkk
      go_wp2
      all_goals go_ret
      all_goals exact ⟨ret_bool (by unfold areDepsF; rw [HS.out, Bool.eq_iff_iff]; simp; omega), hb⟩
theorem c_specAreDeps (n : Int) (oa) (cap : Nat) (D : List (Int × Int)) (w : World) (hD : DepsAt w oa D) :
    Ans Try.prog 37 #[.int .i64 n, .slice oa D.length cap] w (.bool (areDepsF n D)) := by
  unfold Ans
  have hn : D.length ≤ 1073741824 := hD.len
  go_enter Try.func37, Try.ntmps37
  go_wp2
  go_loopw [5] (fun i wr => ∃ k : Nat, i = .int .i64 k ∧ k ≤ D.length ∧ (D.take k).all (fun d => isDepF n d.1 d.2) = true ∧ Below w.heap.size w wr) (fun i _ => D.length - (intOf i).toNat)
  case atStart => exact ⟨0, rfl, Nat.zero_le _, by simp, Below.refl _ _⟩
  case round =>
    obtain ⟨k, rfl, hk, hall, hb⟩ := hrel
    have HA : Hid ((D.take k).all (fun d => isDepF n d.1 d.2) = true) := hall
    clear hall
    by_cases hlt : k < D.length
    · obtain ⟨b, off, rfl, hbs, hc⟩ := hD.at_ (by omega)
      have hc1 := cell_keep (hc k hlt).1 hb
      have hc2 := cell_keep (hc k hlt).2 hb
      have HT : Hid ((D.take (k + 1)).all (fun d => isDepF n d.1 d.2) = ((D.take k).all (fun d => isDepF n d.1 d.2) && isDepF n (nl D k) (nr D k))) := dall_take_succ (fun d => isDepF n d.1 d.2) D k hlt
      have HF : Hid (isDepF n (nl D k) (nr D k) = false → D.all (fun d => isDepF n d.1 d.2) = false) := dall_false (fun d => isDepF n d.1 d.2) D k hlt
      clear hc
      cases hst : isDepF n (nl D k) (nr D k)
      · go_wp2_with (first | (go_at_call 38; refine Calls.mono (c_specIsDep _ _ _ _) ?_; rintro e w1 ⟨rfl, hbn⟩; replace hb := bel_to (w := w) (by first | exact hb | exact hb.alloc hb.size _ | exact (hb.alloc hb.size _).alloc (Nat.le_trans hb.size (by simp)) _ | exact hb.setCell (by simp [hb.size]) _) hbn; clear hbn))
        go_ret
        exact ⟨ret_bool (by unfold areDepsF; rw [HF.out hst]; rfl), hb⟩
      · go_wp2_with (first | (go_at_call 38; refine Calls.mono (c_specIsDep _ _ _ _) ?_; rintro e w1 ⟨rfl, hbn⟩; replace hb := bel_to (w := w) (by first | exact hb | exact hb.alloc hb.size _ | exact (hb.alloc hb.size _).alloc (Nat.le_trans hb.size (by simp)) _ | exact hb.setCell (by simp [hb.size]) _) hbn; clear hbn))
        go_roundw
        case rel => exact ⟨k + 1, by go_num, by omega, by rw [HT.out, HA.out, hst]; rfl, hb⟩
        case measure => simp [intOf]; omega
    · have hkk : k = D.length := by omega
      have HS : Hid (D.all (fun d => isDepF n d.1 d.2) = true) := by have := HA.out; rw [hkk, List.take_length] at this; exact this
      clear hkk
      cases h1 : inB n 1 5
      · go_wp2_with (first | (go_at_call 109; refine Calls.mono (c_l1In _ _ _ _) ?_; rintro e w1 ⟨rfl, hbn⟩; replace hb := bel_to (w := w) (by first | exact hb | exact hb.alloc hb.size _ | exact (hb.alloc hb.size _).alloc (Nat.le_trans hb.size (by simp)) _ | exact hb.setCell (by simp [hb.size]) _) hbn; clear hbn))
        go_ret
        exact ⟨ret_bool (by unfold areDepsF; rw [HS.out]; simp [inB] at h1 ⊢; omega), hb⟩
      · go_wp2_with (first | (go_at_call 109; refine Calls.mono (c_l1In _ _ _ _) ?_; rintro e w1 ⟨rfl, hbn⟩; replace hb := bel_to (w := w) (by first | exact hb | exact hb.alloc hb.size _ | exact (hb.alloc hb.size _).alloc (Nat.le_trans hb.size (by simp)) _ | exact hb.setCell (by simp [hb.size]) _) hbn; clear hbn))
        go_ret
        exact ⟨ret_bool (by unfold areDepsF; rw [HS.out]; simp [inB] at h1 ⊢; rw [Bool.eq_iff_iff]; simp; omega), hb⟩
end Go.Proofs.Ytjbmpnbfiahdhaa
namespace Go.Proofs.Ytjbmpnbfiahdhaa
open Go.RowKit
set_option linter.unusedVariables false
set_option maxRecDepth 100000

def encD (d : Int × Int) : List Value := [.int .i64 d.1, .int .i64 d.2]
def dcells (D : List (Int × Int)) : List Value := D.flatMap encD
theorem dcells_length : ∀ D : List (Int × Int), (dcells D).length = D.length * 2
  | [] => rfl
  | d :: D => by
    have := dcells_length D
    simp only [dcells, List.flatMap_cons, List.length_append, List.length_cons] at this ⊢
    rw [this]; simp [encD]; omega
theorem dcells_cons (d : Int × Int) (D : List (Int × Int)) : dcells (d :: D) = .int .i64 d.1 :: .int .i64 d.2 :: dcells D := rfl
theorem dcells_append (D E : List (Int × Int)) : dcells (D ++ E) = dcells D ++ dcells E := by simp [dcells]
theorem dcells_at : ∀ (D : List (Int × Int)) (k : Nat), k < D.length → (dcells D)[k * 2]? = some (.int .i64 (nl D k)) ∧ (dcells D)[k * 2 + 1]? = some (.int .i64 (nr D k))
  | [], k, h => absurd h (by simp)
  | d :: D, 0, _ => ⟨rfl, rfl⟩
  | d :: D, k + 1, h => by
    have := dcells_at D k (by simpa using h)
    rw [dcells_cons, show (k + 1) * 2 = k * 2 + 1 + 1 by omega, show k * 2 + 1 + 1 + 1 = (k * 2 + 1) + 1 + 1 by omega]
    simp only [List.getElem?_cons_succ]
    exact this
theorem dcells_set : ∀ (D : List (Int × Int)) (k : Nat) (d : Int × Int), ((dcells D).set (k * 2) (.int .i64 d.1)).set (k * 2 + 1) (.int .i64 d.2) = dcells (D.set k d)
  | [], k, d => by simp [dcells]
  | e :: D, 0, d => rfl
  | e :: D, k + 1, d => by
    have := dcells_set D k d
    rw [List.set_cons_succ, dcells_cons, dcells_cons, show (k + 1) * 2 = k * 2 + 1 + 1 by omega, show k * 2 + 1 + 1 + 1 = (k * 2 + 1) + 1 + 1 by omega]
    simp only [List.set_cons_succ]
    rw [this]
theorem nl_set {L : List (Int × Int)} {j k : Nat} {x : Int × Int} (hj : j < L.length) : nl (L.set j x) k = if k = j then x.1 else nl L k := by
  unfold nl List.getD
  rw [List.getElem?_set]
  by_cases h : j = k
  · subst h; simp [hj]
  · rw [if_neg h, if_neg (by omega)]
theorem nr_set {L : List (Int × Int)} {j k : Nat} {x : Int × Int} (hj : j < L.length) : nr (L.set j x) k = if k = j then x.2 else nr L k := by
  unfold nr List.getD
  rw [List.getElem?_set]
  by_cases h : j = k
  · subst h; simp [hj]
  · rw [if_neg h, if_neg (by omega)]

/-- 'v' is a slice of dependencies of the call's own (made from block 'base' on) that reads as D. -/
def OwnD (w : World) (base : Nat) (v : Value) (D : List (Int × Int)) : Prop := w.ownsRow base 55 2 v D.length (dcells D)
theorem OwnD.keep {w w' : World} {base : Nat} {v : Value} {D : List (Int × Int)} (h : OwnD w base v D) (hb : Below w.heap.size w w') : OwnD w' base v D := owns_keep h hb
theorem OwnD.reads {w : World} {base : Nat} {v : Value} {D : List (Int × Int)} (h : OwnD w base v D) (hl : D.length ≤ Room) :
    ∃ oa cap, v = .slice oa D.length cap ∧ DepsAt w oa D := by
  obtain ⟨oa, cap, hv, hc⟩ := owns_cells h
  refine ⟨oa, cap, hv, hl, fun h0 => ?_⟩
  obtain ⟨g, ha, hbg, hlt, _, hcell, _⟩ := hc h0
  refine ⟨g, 0, ha, hlt, fun k hk => ?_⟩
  rw [Nat.zero_add, hcell (k * 2) (by omega), hcell (k * 2 + 1) (by omega)]
  exact dcells_at D k hk
theorem OwnD.cell {w : World} {base g : Nat} {n cap : Nat} {D : List (Int × Int)} (h : OwnD w base (.slice (some ⟨g, 0, none⟩) n cap) D) (hn : n = D.length) (k : Nat) (hk : k < n) :
    w.cell? ⟨g, k * 2, none⟩ = some (.int .i64 (nl D k)) ∧ w.cell? ⟨g, k * 2 + 1, none⟩ = some (.int .i64 (nr D k)) ∧ w.frozen? ⟨g, k * 2, none⟩ = false ∧ w.frozen? ⟨g, k * 2 + 1, none⟩ = false := by
  subst hn
  refine ⟨?_, ?_, h.frozenAt _, h.frozenAt _⟩
  · rw [h.cellAt (k * 2) (by omega)]; exact (dcells_at D k hk).1
  · rw [h.cellAt (k * 2 + 1) (by omega)]; exact (dcells_at D k hk).2
theorem OwnD.store {w : World} {base g : Nat} {n cap : Nat} {D : List (Int × Int)} (h : OwnD w base (.slice (some ⟨g, 0, none⟩) n cap) D) (hn : n = D.length) (k : Nat) (l r : Int) :
    OwnD ((w.setCell ⟨g, k * 2, none⟩ (.int .i64 l)).setCell ⟨g, k * 2 + 1, none⟩ (.int .i64 r)) base (.slice (some ⟨g, 0, none⟩) n cap) (D.set k (l, r)) := by
  subst hn
  have := ((h.stored (k * 2) (.int .i64 l)).1.stored (k * 2 + 1) (.int .i64 r)).1
  unfold OwnD
  rw [List.length_set, ← dcells_set]
  exact this
theorem madeD (n : Nat) : (madeCells (Value.cells (.agg #[.int .i64 0, .int .i64 0])) (n * 2)).toList = dcells (List.replicate n (0, 0)) := by
  apply List.ext_getElem?
  intro j
  have hl : (dcells (List.replicate n (0, 0))).length = n * 2 := by rw [dcells_length]; simp
  by_cases hj : j < n * 2
  · have h2 : j / 2 < (List.replicate n ((0 : Int), (0 : Int))).length := by simp; omega
    have hd := dcells_at _ _ h2
    have z : nl (List.replicate n (0, 0)) (j / 2) = 0 ∧ nr (List.replicate n (0, 0)) (j / 2) = 0 := by
      simp only [List.length_replicate] at h2
      unfold nl nr List.getD
      rw [List.getElem?_replicate, if_pos h2]; exact ⟨rfl, rfl⟩
    rw [z.1, z.2] at hd
    rcases Nat.mod_two_eq_zero_or_one j with h | h
    · have e : j = j / 2 * 2 := by omega
      have := hd.1
      rw [← e] at this
      rw [this]
      simp [madeCells, Value.cells, hj, h]
    · have e : j = j / 2 * 2 + 1 := by omega
      have := hd.2
      rw [← e] at this
      rw [this]
      simp [madeCells, Value.cells, hj, h]
  · have h1 : (madeCells (Value.cells (.agg #[.int .i64 0, .int .i64 0])) (n * 2)).toList.length ≤ j := by
      rw [Array.length_toList, size_madeCells]; omega
    rw [List.getElem?_eq_none h1, List.getElem?_eq_none (by rw [hl]; omega)]
theorem info_dep : (Try.prog.info? 55).map (fun i => (i.zero, i.size, i.bytes)) = some (some (.agg #[.int .i64 0, .int .i64 0]), 2, 16) := by kernel_rfl
end Go.Proofs.Ytjbmpnbfiahdhaa
namespace Go.Proofs.Ytjbmpnbfiahdhaa
open Go.RowKit
set_option linter.unusedVariables false
set_option maxRecDepth 100000

def seqI (k : Int) (n : Nat) : List Int := (List.range n).map fun (i : Nat) => k + i
theorem seqI_length (k : Int) (n : Nat) : (seqI k n).length = n := by simp [seqI]
theorem seqI_nth (k : Int) (n j : Nat) (h : j < n) : nth (seqI k n) j = k + j := by simp [nth, seqI, List.getD, h]
def seqD (k : Int) (n : Nat) : List (Int × Int) := (List.range n).map fun (i : Nat) => (k + 2 * i, k + 2 * i + 1)
theorem seqD_length (k : Int) (n : Nat) : (seqD k n).length = n := by simp [seqD]
theorem seqD_nl (k : Int) (n j : Nat) (h : j < n) : nl (seqD k n) j = k + 2 * j := by simp [nl, seqD, List.getD, h]
theorem seqD_nr (k : Int) (n j : Nat) (h : j < n) : nr (seqD k n) j = k + 2 * j + 1 := by simp [nr, seqD, List.getD, h]

theorem OwnI.ints {w : World} {base : Nat} {oa : Option Addr} {n cap : Nat} {L : List Int} (h : OwnI w base (.slice oa n cap) L) (hn : n = L.length) (hl : L.length ≤ Room) : IntsAt w oa L := by
  obtain ⟨oa', cap', hv, hI⟩ := h.reads hl
  simp only [Value.slice.injEq] at hv
  rw [hv.1]; exact hI
theorem OwnD.deps {w : World} {base : Nat} {oa : Option Addr} {n cap : Nat} {L : List (Int × Int)} (h : OwnD w base (.slice oa n cap) L) (hn : n = L.length) (hl : L.length ≤ Room) : DepsAt w oa L := by
  obtain ⟨oa', cap', hv, hI⟩ := h.reads hl
  simp only [Value.slice.injEq] at hv
  rw [hv.1]; exact hI
theorem OwnI.shape {w : World} {base : Nat} {v : Value} {L : List Int} (h : OwnI w base v L) : ∃ oa cap, v = .slice oa L.length cap := by
  obtain ⟨oa, cap, hv, _⟩ := owns_cells h; exact ⟨oa, cap, hv⟩
theorem OwnD.shape {w : World} {base : Nat} {v : Value} {L : List (Int × Int)} (h : OwnD w base v L) : ∃ oa cap, v = .slice oa L.length cap := by
  obtain ⟨oa, cap, hv, _⟩ := owns_cells h; exact ⟨oa, cap, hv⟩
/-- Two slices of the call's own, made one behind the other, lie in different blocks. -/
def Apart (v v' : Value) : Prop := v.ownBlock = none ∨ v.ownBlock ≠ v'.ownBlock
theorem apart_old {w w' : World} {base e e' size size' n n' : Nat} {v v' : Value} {xs xs' : List Value} (h : w.ownsRow base e size v n xs) (h' : w'.ownsRow w.heap.size e' size' v' n' xs') : Apart v v' := by
  cases hv : v.ownBlock with
  | none => exact .inl hv
  | some k =>
    refine .inr fun e => ?_
    have h1 := (World.ownsRow.lt h k hv).2
    have h2 := (World.ownsRow.lt h' k (by rw [← e]; exact hv)).1
    omega
theorem Apart.symm {v v' : Value} (h : Apart v v') : Apart v' v := by
  unfold Apart at *
  cases hv : v'.ownBlock with
  | none => exact .inl rfl
  | some k =>
    right
    rcases h with h | h
    · rw [h]; simp
    · intro e; exact h (by rw [hv]; exact e.symm)
theorem OwnI.based {w : World} {base base' : Nat} {v : Value} {L : List Int} (h : OwnI w base v L) (hb : base' ≤ base) : OwnI w base' v L := owns_base h hb
theorem OwnD.based {w : World} {base base' : Nat} {v : Value} {L : List (Int × Int)} (h : OwnD w base v L) (hb : base' ≤ base) : OwnD w base' v L := owns_base h hb
theorem OwnI.far {w w' : World} {base : Nat} {v v' : Value} {L : List Int} (h : OwnI w base v L) (hg : w.grownBy w' v'.ownBlock) (ha : Apart v v') : OwnI w' base v L := World.ownsRow.kept h hg ha
theorem OwnD.far {w w' : World} {base : Nat} {v v' : Value} {L : List (Int × Int)} (h : OwnD w base v L) (hg : w.grownBy w' v'.ownBlock) (ha : Apart v v') : OwnD w' base v L := World.ownsRow.kept h hg ha
theorem below_mark {w a b : World} {e size n : Nat} {v : Value} {xs : List Value} (hb : Below w.heap.size w a) (h : a.ownsRow w.heap.size e size v n xs) (hg : a.grownBy b v.ownBlock) : Below w.heap.size w b :=
  hb.grown hg hb.size fun k hk => (World.ownsRow.lt h k hk).1

theorem grown_refl (w : World) (row : Option Nat) : w.grownBy w row := ⟨rfl, rfl, rfl, Nat.le_refl _, fun _ _ _ => rfl⟩
theorem grown_trans {a b c : World} {row : Option Nat} (h : a.grownBy b row) (k : b.grownBy c row) : a.grownBy c row :=
  ⟨k.os.trans h.os, k.tape.trans h.tape, k.output.trans h.output, Nat.le_trans h.size k.size, fun i hi hr => (k.block i (Nat.lt_of_lt_of_le hi h.size) hr).trans (h.block i hi hr)⟩
theorem grown_of_below {w w' : World} (h : Below w.heap.size w w') (row : Option Nat) : w.grownBy w' row := ⟨h.os, h.tape, h.output, h.size, fun k hk _ => h.block k hk⟩
theorem grown_set (w : World) (g j : Nat) (v : Value) : w.grownBy (w.setCell ⟨g, j, none⟩ v) (some g) :=
  ⟨rfl, rfl, rfl, by simp [World.setCell], fun k _ hk => Below.heap_setCell w ⟨g, j, none⟩ v k (fun e => hk (by simp [e]))⟩

set_option maxHeartbeats 400000 in
theorem c_markIntS (oa) (cap base : Nat) (L : List Int) (k0 : Int) (hk0 : 0 ≤ k0 ∧ k0 ≤ 1073741824) (w : World) (hL : L.length ≤ Room) (h : OwnI w base (.slice oa L.length cap) L) :
    Calls Try.prog 156 #[.slice oa L.length cap, .int .i64 k0] w fun e w' => e = .returned (.int .i64 (k0 + L.length)) ∧ OwnI w' base (.slice oa L.length cap) (seqI k0 L.length) ∧ w.grownBy w' (Value.slice oa L.length cap).ownBlock := by
  unfold Room at hL
  obtain ⟨h01, h02⟩ := hk0
  rcases oa with _ | ⟨g, off, sp⟩
  · have h0 : L.length = 0 := by
      rcases h.2 with ⟨hv, hn⟩ | ⟨g, c, cur, hv, _⟩
      · exact hn
      · cases hv
    have hnil : L = [] := List.eq_nil_of_length_eq_zero h0
    subst hnil
    go_enter Try.func156, Try.ntmps156
    go_wp2
    go_loop [1, 5] (fun k i => k = .int .i64 k0 ∧ i = .int .i64 0) (fun _ _ => 0)
    case atStart => exact ⟨rfl, rfl⟩
    case round =>
      obtain ⟨rfl, rfl⟩ := hrel
      go_wp2
      go_ret
      exact ⟨rfl, by simpa [seqI] using h, grown_refl _ _⟩
  · have hsh : off = 0 ∧ sp = none := by
      rcases h.2 with ⟨hv, _⟩ | ⟨g', c, cur, hv, _⟩
      · cases hv
      · simp only [Value.slice.injEq, Option.some.injEq, Addr.mk.injEq] at hv; exact ⟨hv.1.2.1, hv.1.2.2⟩
    obtain ⟨rfl, rfl⟩ := hsh
    go_enter Try.func156, Try.ntmps156
    go_wp2
    go_loopw [1, 5] (fun k i wr => ∃ (j : Nat) (M : List Int), k = .int .i64 (k0 + j) ∧ i = .int .i64 j ∧ j ≤ L.length ∧ M.length = L.length ∧ (∀ t, t < j → nth M t = k0 + t) ∧
      OwnI wr base (.slice (some ⟨g, 0, none⟩) L.length cap) M ∧ w.grownBy wr (some g)) (fun _ i _ => L.length - (intOf i).toNat)
    case atStart => exact ⟨0, L, by simp, rfl, Nat.zero_le _, rfl, fun t ht => absurd ht (by omega), h, grown_refl _ _⟩
    case round =>
      obtain ⟨j, M, rfl, rfl, hj, hM, hall, hI, hg⟩ := hrel
      have HM : Hid (M.length = L.length) := hM
      have HA : Hid (∀ t, t < j → nth M t = k0 + t) := hall
      clear hM hall
      by_cases hlt : j < L.length
      · obtain ⟨hg1, hg2⟩ := hI.cell HM.out.symm j hlt
        have HI2 := (show Hid _ from hI.store HM.out.symm j (k0 + j))
        have HG2 := (show Hid _ from grown_trans hg (grown_set _ g j (.int .i64 (k0 + j))))
        clear hI hg h
        go_wp2
        go_roundw
        case rel =>
          refine ⟨j + 1, M.set j (k0 + j), by go_num, by go_num, by omega, by rw [List.length_set]; exact HM.out, ?_, HI2.out, HG2.out⟩
          intro t ht
          rw [nth_set (by have := HM.out; omega)]
          by_cases e : t = j
          · subst e; simp
          · rw [if_neg e]; exact HA.out t (by omega)
        case measure => simp [intOf]; omega
      · have hjj : j = L.length := by omega
        have HJ : Hid (j = L.length) := hjj
        have HV : Hid (M = seqI k0 L.length) := by
          refine list_ext (by rw [seqI_length]; exact HM.out) fun t ht => ?_
          have := HM.out
          rw [seqI_nth k0 L.length t (by omega)]
          exact HA.out t (by omega)
        clear hjj
        go_wp2
        go_ret
        exact ⟨ret_int (by have := HJ.out; omega), by rw [← HV.out]; exact hI, hg⟩

theorem c_heldIntS (oa) (cap : Nat) (n : Nat) (k0 : Int) (hk0 : 0 ≤ k0 ∧ k0 ≤ 1073741824) (w : World) (h : IntsAt w oa (seqI k0 n)) :
    Ans Try.prog 157 #[.slice oa n cap, .int .i64 k0] w (.int .i64 (k0 + n)) := by
  unfold Ans
  obtain ⟨h01, h02⟩ := hk0
  have hn : n ≤ 1073741824 := by have := h.len; rw [seqI_length] at this; exact this
  go_enter Try.func157, Try.ntmps157
  go_wp2
  go_loop [1, 5] (fun k i => ∃ j : Nat, k = .int .i64 (k0 + j) ∧ i = .int .i64 j ∧ j ≤ n) (fun _ i => n - (intOf i).toNat)
  case atStart => exact ⟨0, by simp, rfl, Nat.zero_le _⟩
  case round =>
    obtain ⟨j, rfl, rfl, hj⟩ := hrel
    by_cases hlt : j < n
    · obtain ⟨b, off, rfl, hbs, hc⟩ := h.at_ (by rw [seqI_length]; omega)
      have hc1 := hc j (by rw [seqI_length]; omega)
      rw [seqI_nth k0 n j hlt] at hc1
      have hne : (k0 + (j : Int) != k0 + j) = false := by simp
      clear hc h
      go_wp2
      go_round
      case rel => exact ⟨j + 1, by go_num, by go_num, by omega⟩
      case measure => simp [intOf]; omega
    · have hjj : j = n := by omega
      have HJ : Hid (j = n) := hjj
      clear hjj
      go_wp2
      go_ret
      exact ⟨ret_int (by rw [HJ.out]), Below.refl _ _⟩

set_option maxHeartbeats 400000 in
theorem c_markDepS (oa) (cap base : Nat) (L : List (Int × Int)) (k0 : Int) (hk0 : 0 ≤ k0 ∧ k0 ≤ 1073741824) (w : World) (hL : L.length ≤ Room) (h : OwnD w base (.slice oa L.length cap) L) :
    Calls Try.prog 16 #[.slice oa L.length cap, .int .i64 k0] w fun e w' => e = .returned (.int .i64 (k0 + 2 * L.length)) ∧ OwnD w' base (.slice oa L.length cap) (seqD k0 L.length) ∧ w.grownBy w' (Value.slice oa L.length cap).ownBlock := by
  unfold Room at hL
  obtain ⟨h01, h02⟩ := hk0
  rcases oa with _ | ⟨g, off, sp⟩
  · have h0 : L.length = 0 := by
      rcases h.2 with ⟨hv, hn⟩ | ⟨g, c, cur, hv, _⟩
      · exact hn
      · cases hv
    have hnil : L = [] := List.eq_nil_of_length_eq_zero h0
    subst hnil
    go_enter Try.func16, Try.ntmps16
    go_wp2
    go_loop [1, 5] (fun k i => k = .int .i64 k0 ∧ i = .int .i64 0) (fun _ _ => 0)
    case atStart => exact ⟨rfl, rfl⟩
    case round =>
      obtain ⟨rfl, rfl⟩ := hrel
      go_wp2
      go_ret
      exact ⟨ret_int (by simp), by simpa [seqD] using h, grown_refl _ _⟩
  · have hsh : off = 0 ∧ sp = none := by
      rcases h.2 with ⟨hv, _⟩ | ⟨g', c, cur, hv, _⟩
      · cases hv
      · simp only [Value.slice.injEq, Option.some.injEq, Addr.mk.injEq] at hv; exact ⟨hv.1.2.1, hv.1.2.2⟩
    obtain ⟨rfl, rfl⟩ := hsh
    go_enter Try.func16, Try.ntmps16
    go_wp2
    go_loopw [1, 5] (fun k i wr => ∃ (j : Nat) (M : List (Int × Int)), k = .int .i64 (k0 + 2 * j) ∧ i = .int .i64 j ∧ j ≤ L.length ∧ M.length = L.length ∧ (∀ t, t < j → nl M t = k0 + 2 * t ∧ nr M t = k0 + 2 * t + 1) ∧
      OwnD wr base (.slice (some ⟨g, 0, none⟩) L.length cap) M ∧ w.grownBy wr (some g)) (fun _ i _ => L.length - (intOf i).toNat)
    case atStart => exact ⟨0, L, by simp, rfl, Nat.zero_le _, rfl, fun t ht => absurd ht (by omega), h, grown_refl _ _⟩
    case round =>
      obtain ⟨j, M, rfl, rfl, hj, hM, hall, hI, hg⟩ := hrel
      have HM : Hid (M.length = L.length) := hM
      have HA : Hid (∀ t, t < j → nl M t = k0 + 2 * t ∧ nr M t = k0 + 2 * t + 1) := hall
      clear hM hall
      by_cases hlt : j < L.length
      · obtain ⟨hg1, hg2, hg3, hg4⟩ := hI.cell HM.out.symm j hlt
        have HI2 := (show Hid _ from hI.store HM.out.symm j (k0 + 2 * j) (k0 + 2 * j + 1))
        have HG2 := (show Hid _ from grown_trans (grown_trans hg (grown_set _ g (j * 2) (.int .i64 (k0 + 2 * j)))) (grown_set _ g (j * 2 + 1) (.int .i64 (k0 + 2 * j + 1))))
        clear hI hg h
        go_wp2
        go_roundw
        case rel =>
          refine ⟨j + 1, M.set j (k0 + 2 * j, k0 + 2 * j + 1), by go_num, by go_num, by omega, by rw [List.length_set]; exact HM.out, ?_, HI2.out, HG2.out⟩
          intro t ht
          rw [nl_set (by have := HM.out; omega), nr_set (by have := HM.out; omega)]
          by_cases e : t = j
          · subst e; simp
          · rw [if_neg e, if_neg e]; exact HA.out t (by omega)
        case measure => simp [intOf]; omega
      · have hjj : j = L.length := by omega
        have HJ : Hid (j = L.length) := hjj
        have HV : Hid (M = seqD k0 L.length) := by
          have hd : ∀ {A B : List (Int × Int)}, A.length = B.length → (∀ k, k < A.length → nl A k = nl B k ∧ nr A k = nr B k) → A = B := fun {A B} hl h => by
            apply List.ext_getElem?
            intro k
            by_cases hk : k < A.length
            · rw [dnth_eq hk, dnth_eq (by omega), (h k hk).1, (h k hk).2]
            · rw [List.getElem?_eq_none (by omega), List.getElem?_eq_none (by omega)]
          refine hd (by rw [seqD_length]; exact HM.out) fun t ht => ?_
          have := HM.out
          rw [seqD_nl k0 L.length t (by omega), seqD_nr k0 L.length t (by omega)]
          exact HA.out t (by omega)
        clear hjj
        go_wp2
        go_ret
        exact ⟨ret_int (by have := HJ.out; omega), by rw [← HV.out]; exact hI, hg⟩

theorem c_heldDepS (oa) (cap : Nat) (n : Nat) (k0 : Int) (hk0 : 0 ≤ k0 ∧ k0 ≤ 1073741824) (w : World) (h : DepsAt w oa (seqD k0 n)) :
    Ans Try.prog 94 #[.slice oa n cap, .int .i64 k0] w (.int .i64 (k0 + 2 * n)) := by
  unfold Ans
  obtain ⟨h01, h02⟩ := hk0
  have hn : n ≤ 1073741824 := by have := h.len; rw [seqD_length] at this; exact this
  go_enter Try.func94, Try.ntmps94
  go_wp2
  go_loop [1, 5] (fun k i => ∃ j : Nat, k = .int .i64 (k0 + 2 * j) ∧ i = .int .i64 j ∧ j ≤ n) (fun _ i => n - (intOf i).toNat)
  case atStart => exact ⟨0, by simp, rfl, Nat.zero_le _⟩
  case round =>
    obtain ⟨j, rfl, rfl, hj⟩ := hrel
    by_cases hlt : j < n
    · obtain ⟨b, off, rfl, hbs, hc⟩ := h.at_ (by rw [seqD_length]; omega)
      obtain ⟨hc1, hc2⟩ := hc j (by rw [seqD_length]; omega)
      rw [seqD_nl k0 n j hlt] at hc1
      rw [seqD_nr k0 n j hlt] at hc2
      have hne : (k0 + 2 * (j : Int) != k0 + 2 * j) = false := by simp
      have hne2 : (k0 + 2 * (j : Int) + 1 != k0 + 2 * j + 1) = false := by simp
      clear hc h
      go_wp2
      go_round
      case rel => exact ⟨j + 1, by go_num, by go_num, by omega⟩
      case measure => simp [intOf]; omega
    · have hjj : j = n := by omega
      have HJ : Hid (j = n) := hjj
      clear hjj
      go_wp2
      go_ret
      exact ⟨ret_int (by rw [HJ.out]), Below.refl _ _⟩
end Go.Proofs.Ytjbmpnbfiahdhaa
namespace Go.Proofs.Ytjbmpnbfiahdhaa
open Go.RowKit
set_option linter.unusedVariables false
set_option maxRecDepth 100000

def row (R : List (List Int)) (k : Nat) : List Int := R.getD k []
theorem row_eq {R : List (List Int)} {k : Nat} (h : k < R.length) : R[k]? = some (row R k) := by simp [row, List.getD, h]
theorem row_mem {R : List (List Int)} {k : Nat} (h : k < R.length) : row R k ∈ R := List.mem_iff_getElem?.2 ⟨k, row_eq h⟩
structure RowsAt (w : World) (oa : Option Addr) (R : List (List Int)) : Prop where
  len : R.length ≤ Room
  at_ : 0 < R.length → ∃ b off, oa = some ⟨b, off, none⟩ ∧ b < w.heap.size ∧ ∀ k, k < R.length → ∃ o c, w.cell? ⟨b, off + k, none⟩ = some (.slice o (row R k).length c) ∧ IntsAt w o (row R k)
theorem RowsAt.keep {w w' : World} {oa : Option Addr} {R : List (List Int)} (h : RowsAt w oa R) (hb : Below w.heap.size w w') : RowsAt w' oa R :=
  ⟨h.len, fun h0 => by
    obtain ⟨b, off, e, hlt, hc⟩ := h.at_ h0
    exact ⟨b, off, e, Nat.lt_of_lt_of_le hlt hb.size, fun k hk => by
      obtain ⟨o, c, h1, h2⟩ := hc k hk
      exact ⟨o, c, cell_keep h1 hb, h2.keep hb⟩⟩⟩
/-- An argument that came in: its length, the lengths of its lists. -/
structure RowsIn (w : World) (oa : Option Addr) (n : Nat) (Ln : Nat → Nat) : Prop where
  len : n ≤ maxLen
  rows : 0 < n → ∃ b off, oa = some ⟨b, off, none⟩ ∧ b < w.heap.size ∧ ∀ r, r < n → Ln r ≤ maxLen ∧ ∃ o c, w.cell? ⟨b, off + r, none⟩ = some (.slice o (Ln r) c) ∧ (Ln r ≤ Room → ∃ L : List Int, L.length = Ln r ∧ IntsAt w o L)
theorem RowsIn.read {w : World} {oa : Option Addr} {n : Nat} {Ln : Nat → Nat} (h : RowsIn w oa n Ln) (hn : n ≤ Room) (hL : ∀ r, r < n → Ln r ≤ Room) : ∃ R : List (List Int), R.length = n ∧ RowsAt w oa R := by
  rcases Nat.eq_zero_or_pos n with h0 | h0
  · exact ⟨[], by simp [h0], by simp, fun h => absurd h (by simp)⟩
  · obtain ⟨b, off, e, hb, hr⟩ := h.rows h0
    have each : ∀ r, r < n → ∃ L : List Int, L.length = Ln r ∧ ∃ o c, w.cell? ⟨b, off + r, none⟩ = some (.slice o (Ln r) c) ∧ IntsAt w o L := fun r hrn => by
      obtain ⟨_, o, c, h1, h2⟩ := hr r hrn
      obtain ⟨L, h3, h4⟩ := h2 (hL r hrn)
      exact ⟨L, h3, o, c, h1, h4⟩
    have hch : ∃ f : Nat → List Int, ∀ r, r < n → (f r).length = Ln r ∧ ∃ o c, w.cell? ⟨b, off + r, none⟩ = some (.slice o (Ln r) c) ∧ IntsAt w o (f r) :=
      ⟨fun r => if hr : r < n then Classical.choose (each r hr) else [], fun r hr => by simp only [hr, dif_pos]; exact Classical.choose_spec (each r hr)⟩
    obtain ⟨f, hf⟩ := hch
    refine ⟨(List.range n).map f, by simp, by simpa using hn, fun _ => ⟨b, off, e, hb, fun k hk => ?_⟩⟩
    have hk : k < n := by simpa using hk
    have er : row ((List.range n).map f) k = f k := by simp [row, List.getD, hk]
    obtain ⟨h1, o, c, h2, h3⟩ := hf k hk
    exact ⟨o, c, by rw [er, h1]; exact h2, by rw [er]; exact h3⟩

theorem c_szIntS (oa) (n cap : Nat) (left : Int) (h0 : 0 ≤ left ∧ left ≤ 1048576) (hn : n ≤ maxLen) (w : World) :
    Ans Try.prog 158 #[.slice oa n cap, .int .i64 left] w (.int .i64 (if (n : Int) ≤ left then left - n else -1)) := by
  unfold Ans
  obtain ⟨h1, h2⟩ := h0
  unfold maxLen at hn
  by_cases h : (n : Int) ≤ left
  · have e : (if (n : Int) ≤ left then left - n else -1) = left - n := if_pos h
    rw [e]
    go_enter Try.func158, Try.ntmps158
    go_wp2
    go_ret
    exact ⟨rfl, Below.refl _ _⟩
  · have e : (if (n : Int) ≤ left then left - n else -1) = -1 := if_neg h
    rw [e]
    go_enter Try.func158, Try.ntmps158
    go_wp2
    go_ret
    exact ⟨rfl, Below.refl _ _⟩
theorem c_szIntSS (oa) (n cap : Nat) (Ln : Nat → Nat) (w : World) (h : RowsIn w oa n Ln) :
    Calls Try.prog 88 #[.slice oa n cap, .int .i64 1048576] w fun e w' => (∃ x : Int, e = .returned (.int .i64 x) ∧ (x = -1 ∨ (0 ≤ x ∧ x ≤ 1048576 ∧ n ≤ 1048576 ∧ ∀ r, r < n → Ln r ≤ 1048576))) ∧ Below w.heap.size w w' := by
  have hn := h.len
  unfold maxLen at hn
  by_cases hbig : (1048576 : Int) < n
  · go_enter Try.func88, Try.ntmps88
    go_wp2
    go_ret
    exact ⟨⟨_, rfl, .inl rfl⟩, Below.refl _ _⟩
  go_enter Try.func88, Try.ntmps88
  go_wp2
  go_loopw [1, 5] (fun l i wr => ∃ (x : Int) (k : Nat), l = .int .i64 x ∧ i = .int .i64 k ∧ k ≤ n ∧ 0 ≤ x ∧ x ≤ 1048576 ∧ (∀ r, r < k → Ln r ≤ 1048576) ∧ Below w.heap.size w wr) (fun _ i _ => n - (intOf i).toNat)
  case atStart => exact ⟨_, 0, rfl, rfl, Nat.zero_le _, by omega, by omega, fun r hr => absurd hr (by omega), Below.refl _ _⟩
  case round =>
    obtain ⟨x, k, rfl, rfl, hk, hx0, hx1, hall, hb⟩ := hrel
    have HA : Hid (∀ r, r < k → Ln r ≤ 1048576) := hall
    clear hall
    by_cases hlt : k < n
    · obtain ⟨b, off, rfl, hbs, hc⟩ := h.rows (by omega)
      obtain ⟨hm, o, c, hc0, _⟩ := hc k hlt
      have hc1 := cell_keep hc0 hb
      clear hc hc0
      by_cases hle : (Ln k : Int) ≤ x
      · have e : (if (Ln k : Int) ≤ x then x - Ln k else -1) = x - Ln k := if_pos hle
        go_wp2_with fail
        refine (show Ans _ _ _ _ (.int .i64 (x - Ln k)) from e ▸ c_szIntS _ _ _ _ ⟨hx0, hx1⟩ hm _).mono ?_
        rintro en w1 ⟨rfl, hbn⟩
        replace hb := bel_to hb hbn
        clear hbn e
        go_wp2
        go_roundw
        case rel => exact ⟨x - Ln k, k + 1, rfl, by go_num, by omega, by omega, by omega, lt_step HA.out (by omega), hb⟩
        case measure => simp [intOf]; omega
      · have e : (if (Ln k : Int) ≤ x then x - Ln k else -1) = -1 := if_neg hle
        go_wp2_with fail
        refine (show Ans _ _ _ _ (.int .i64 (-1)) from e ▸ c_szIntS _ _ _ _ ⟨hx0, hx1⟩ hm _).mono ?_
        rintro en w1 ⟨rfl, hbn⟩
        replace hb := bel_to hb hbn
        clear hbn e
        go_wp2
        go_ret
        exact ⟨⟨_, rfl, .inl rfl⟩, hb⟩
    · have hkk : k = n := by omega
      have HK : Hid (k = n) := hkk
      clear hkk
      go_wp2
      go_ret
      exact ⟨⟨_, rfl, .inr ⟨hx0, hx1, by omega, by rw [← HK.out]; exact HA.out⟩⟩, hb⟩

def OwnV (w : World) (base : Nat) (v : Value) (xs : List Value) : Prop := w.ownsRow base 68 1 v xs.length xs
theorem OwnV.keep {w w' : World} {base : Nat} {v : Value} {xs : List Value} (h : OwnV w base v xs) (hb : Below w.heap.size w w') : OwnV w' base v xs := owns_keep h hb
theorem ownV_made {w : World} {base : Nat} {v : Value} {n : Nat} (h : w.ownsRow base 68 1 v n (madeCells (Value.cells (.slice none 0 0)) (n * 1)).toList) : OwnV w base v (List.replicate n (.slice none 0 0)) := by
  have e : (madeCells (Value.cells (.slice none 0 0)) (n * 1)).toList = List.replicate n (.slice none 0 0) := by
    rw [Nat.mul_one]
    have : (Value.cells (.slice none 0 0)) = #[Value.slice none 0 0] := rfl
    rw [this, toList_madeCells_one]
  rw [e] at h
  unfold OwnV
  rw [List.length_replicate]
  exact h
theorem OwnV.cell {w : World} {base g n cap : Nat} {xs : List Value} (h : OwnV w base (.slice (some ⟨g, 0, none⟩) n cap) xs) (hn : n = xs.length) (j : Nat) (hj : j < n) :
    w.cell? ⟨g, j, none⟩ = xs[j]? ∧ w.frozen? ⟨g, j, none⟩ = false := by
  subst hn
  exact ⟨h.cellAt j (by omega), h.frozenAt j⟩
theorem OwnV.store {w : World} {base g n cap : Nat} {xs : List Value} (h : OwnV w base (.slice (some ⟨g, 0, none⟩) n cap) xs) (hn : n = xs.length) (j : Nat) (u : Value) (hu : u.oneCell' = true) :
    OwnV (w.setCell ⟨g, j, none⟩ u) base (.slice (some ⟨g, 0, none⟩) n cap) (xs.set j u) := by
  subst hn
  unfold OwnV
  rw [List.length_set]
  exact (h.stored j u).1
theorem info_ints : (Try.prog.info? 68).map (fun i => (i.zero, i.size, i.bytes)) = some (some (.slice none 0 0), 1, 24) := by kernel_rfl
def Off (o : Option Addr) (g : Nat) : Prop := ∀ b off s, o = some ⟨b, off, s⟩ → g < b
theorem cell_far {w : World} {a a' : Addr} {u v : Value} (h : w.cell? a = some v) (hne : a.block ≠ a'.block) : (w.setCell a' u).cell? a = some v :=
  (World.cell?_of_block (Below.heap_setCell w a' u a.block hne)).trans h
theorem IntsAt.far {w : World} {o : Option Addr} {L : List Int} {g j : Nat} {u : Value} (h : IntsAt w o L) (ho : Off o g) : IntsAt (w.setCell ⟨g, j, none⟩ u) o L :=
  ⟨h.len, fun h0 => by
    obtain ⟨b, off, e, hlt, hc⟩ := h.at_ h0
    exact ⟨b, off, e, Nat.lt_of_lt_of_le hlt (grown_set w g j u).size, fun k hk => cell_far (hc k hk) (by have := ho b off none e; simp; omega)⟩⟩
theorem off_new {w : World} {base g n c : Nat} {o : Option Addr} {e : TypeId} {xs : List Value} (h : w.ownsRow base e 1 (.slice o n c) n xs) (hg : g < base) : Off o g := by
  intro b off s e
  subst e
  have := (World.ownsRow.lt h b rfl).1
  omega

/-- A list of lists whose blocks all lie from block B on. -/
structure RowsNew (w : World) (B : Nat) (oa : Option Addr) (R : List (List Int)) : Prop where
  len : R.length ≤ Room
  at_ : 0 < R.length → ∃ b off, oa = some ⟨b, off, none⟩ ∧ B ≤ b ∧ b < w.heap.size ∧ ∀ k, k < R.length → ∃ o c, w.cell? ⟨b, off + k, none⟩ = some (.slice o (row R k).length c) ∧ IntsAt w o (row R k) ∧ Off o B
theorem RowsNew.rows {w : World} {B : Nat} {oa : Option Addr} {R : List (List Int)} (h : RowsNew w B oa R) : RowsAt w oa R :=
  ⟨h.len, fun h0 => by
    obtain ⟨b, off, e, _, hlt, hc⟩ := h.at_ h0
    exact ⟨b, off, e, hlt, fun k hk => by
      obtain ⟨o, c, h1, h2, _⟩ := hc k hk
      exact ⟨o, c, h1, h2⟩⟩⟩
theorem RowsNew.far {w : World} {B : Nat} {oa : Option Addr} {R : List (List Int)} (h : RowsNew w B oa R) {g : Nat} (j : Nat) (u : Value) (hg : g < B) : RowsNew (w.setCell ⟨g, j, none⟩ u) B oa R :=
  ⟨h.len, fun h0 => by
    obtain ⟨b, off, e, hB, hlt, hc⟩ := h.at_ h0
    exact ⟨b, off, e, hB, Nat.lt_of_lt_of_le hlt (grown_set w g j u).size, fun k hk => by
      obtain ⟨o, c, h1, h2, h3⟩ := hc k hk
      exact ⟨o, c, cell_far h1 (by simp; omega), h2.far (fun b off s e => by have := h3 b off s e; omega), h3⟩⟩⟩
set_option maxHeartbeats 800000 in
theorem c_toIntSS (oa) (ca : Nat) (R : List (List Int)) (w : World) (hR : RowsAt w oa R) :
    Calls Try.prog 91 #[.slice oa R.length ca] w fun e w' => ∃ o c, e = .returned (.slice o R.length c) ∧ RowsNew w' w.heap.size o R ∧ Below w.heap.size w w' := by
  have hn : R.length ≤ 1073741824 := hR.len
  obtain ⟨i0, hi, hz0, hz1, hz2⟩ := info_parts info_ints
  go_enter Try.func91, Try.ntmps91
  go_wp2_with (first | (at_make; refine wpList_make_full _ rfl _ _ 24 rfl w.heap.size 68 i0 (.slice none 0 0) 1 Try.underlying24 hi hz0 hz1 .i64 .i64 _ _ R.length rfl rfl rfl rfl (by rw [hz2]; omega) (by unfold maxLen; omega) (Nat.le_refl _) ?_; intro w1 hown hgrow))
  have hI := ownV_made hown
  have hb1 : Below w.heap.size w w1 := below_grown hgrow (Nat.le_refl _) (by simp)
  clear hown hgrow hi hz0 hz1 hz2 i0
  go_loopw [4] (fun i wr => ∃ (k : Nat) (xs : List Value), i = .int .i64 k ∧ k ≤ R.length ∧ xs.length = R.length ∧ (∀ j, j < k → ∃ o c, xs[j]? = some (.slice o (row R j).length c) ∧ IntsAt wr o (row R j) ∧ Off o w.heap.size) ∧
      OwnV wr w.heap.size (.slice (some ⟨w.heap.size, 0, none⟩) R.length R.length) xs ∧ Below w.heap.size w wr) (fun i _ => R.length - (intOf i).toNat)
  case atStart => exact ⟨0, _, rfl, Nat.zero_le _, by simp, fun j hj => absurd hj (by omega), hI, hb1⟩
  case round =>
    clear hI hb1
    obtain ⟨k, xs, rfl, hk, hM, hall, hI, hb⟩ := hrel
    have HM : Hid (xs.length = R.length) := hM
    have HA : Hid (∀ j, j < k → ∃ o c, xs[j]? = some (.slice o (row R j).length c) ∧ IntsAt wr o (row R j) ∧ Off o w.heap.size) := hall
    clear hall hM
    by_cases hlt : k < R.length
    · obtain ⟨b, off, rfl, hbs, hc⟩ := hR.at_ (by omega)
      obtain ⟨o, c, hc0, hrow⟩ := hc k hlt
      have hc1 := cell_keep hc0 hb
      have hgl := (World.ownsRow.lt hI w.heap.size rfl).2
      clear hc hc0
      go_wp2_with fail
      refine (c_toIntS _ _ _ _ (hrow.keep hb)).mono ?_
      rintro en w1 ⟨v1, rfl, h1, hbn⟩
      obtain ⟨o1, c1, rfl⟩ := h1.shape
      have hoff := off_new h1 hgl
      have hr1 := h1.ints rfl hrow.len
      replace hI := hI.keep hbn
      replace hb := bel_to hb hbn
      obtain ⟨hg1, hg2⟩ := hI.cell HM.out.symm k hlt
      rw [List.getElem?_eq_getElem (by have := HM.out; omega)] at hg1
      have HI2 := (show Hid _ from hI.store HM.out.symm k (.slice o1 (row R k).length c1) rfl)
      have HB2 := (show Hid _ from Below.setCell (p := (⟨w.heap.size, k, none⟩ : Addr)) hb (Nat.le_refl _) (.slice o1 (row R k).length c1))
      have HR2 : Hid (IntsAt (w1.setCell ⟨w.heap.size, k, none⟩ (.slice o1 (row R k).length c1)) o1 (row R k)) := hr1.far hoff
      have HA2 : Hid (∀ j, j < k → ∃ o c, xs[j]? = some (.slice o (row R j).length c) ∧ IntsAt (w1.setCell ⟨w.heap.size, k, none⟩ (.slice o1 (row R k).length c1)) o (row R j) ∧ Off o w.heap.size) := fun j hj => by
        obtain ⟨o', c', h1', h2', h3'⟩ := HA.out j hj
        exact ⟨o', c', h1', (h2'.keep hbn).far h3', h3'⟩
      have HO : Hid (Off o1 w.heap.size) := hoff
      clear h1 hbn hr1 HA hI hb hoff
      generalize hxk : xs[k]'(by have := HM.out; omega) = xk at hg1
      go_wp2
      go_roundw
      case rel =>
        refine ⟨k + 1, xs.set k (.slice o1 (row R k).length c1), by go_num, by omega, by rw [List.length_set]; exact HM.out, ?_, HI2.out, HB2.out⟩
        refine lt_step (fun j hj => ?_) ⟨o1, c1, ?_, HR2.out, HO.out⟩
        · obtain ⟨o', c', h1', h2', h3'⟩ := HA2.out j hj
          exact ⟨o', c', by rw [List.getElem?_set_ne (by omega)]; exact h1', h2', h3'⟩
        · rw [List.getElem?_set_self (by have := HM.out; omega)]
      case measure => simp [intOf]; omega
    · have hkk : k = R.length := by omega
      have HK : Hid (k = R.length) := hkk
      clear hkk
      go_wp2
      go_ret
      refine ⟨_, _, rfl, ⟨hn, fun h0 => ⟨w.heap.size, 0, rfl, Nat.le_refl _, (World.ownsRow.lt hI w.heap.size rfl).2, fun j hj => ?_⟩⟩, hb⟩
      obtain ⟨o', c', h1', h2', h3'⟩ := HA.out j (by have := HK.out; omega)
      exact ⟨o', c', by rw [Nat.zero_add, (hI.cell HM.out.symm j hj).1]; exact h1', h2', h3'⟩
end Go.Proofs.Ytjbmpnbfiahdhaa
namespace Go.Proofs.Ytjbmpnbfiahdhaa
open Go.RowKit
set_option linter.unusedVariables false
set_option maxRecDepth 100000

def Val (D : List (Int × Int)) : Prop := ∀ d ∈ D, St d.1 ∧ Co d.2
def stepD (x : Int) (d : Int × Int) : Int := if insA d.1 x = true then uni x (one d.2) else x
def roundD (D : List (Int × Int)) (x : Int) : Int := D.foldl stepD x
def roundsD (D : List (Int × Int)) : Nat → Int → Int
  | 0, x => x
  | n + 1, x => roundsD D n (roundD D x)
def cloF (D : List (Int × Int)) (x : Int) : Int := roundsD D 6 x
/-- no dependency leads out of x -/
def Closed (D : List (Int × Int)) (x : Int) : Prop := ∀ d ∈ D, ins d.1 x = true → hasc x d.2 = true

theorem Val.tail {d : Int × Int} {D : List (Int × Int)} (h : Val (d :: D)) : Val D := fun e he => h e (List.mem_cons_of_mem _ he)
theorem Val.head {d : Int × Int} {D : List (Int × Int)} (h : Val (d :: D)) : St d.1 ∧ Co d.2 := h d (List.mem_cons_self ..)

theorem ins_uni_left {x y : Int} (hx : St x) (hy : St y) : ins x (uni x y) = true :=
  (ins_iff hx (uni_st hx hy)).2 fun c hc h => by rw [hasc_uni hx hy hc, h]; rfl
theorem uni_one_same {x c : Int} (hx : St x) (hc : Co c) (h : hasc x c = true) : uni x (one c) = x :=
  set_ext (uni_st hx (one_st hc)) hx fun d hd => by
    rw [hasc_uni hx (one_st hc) hd, hasc_one hc hd]
    by_cases e : c = d
    · subst e; simp [h]
    · simp [e]
theorem stepD_st {x : Int} {d : Int × Int} (hx : St x) (hd : St d.1 ∧ Co d.2) : St (stepD x d) := by
  unfold stepD; split
  · exact uni_st hx (one_st hd.2)
  · exact hx
theorem stepD_up {x : Int} {d : Int × Int} (hx : St x) (hd : St d.1 ∧ Co d.2) : ins x (stepD x d) = true := by
  unfold stepD; split
  · exact ins_uni_left hx (one_st hd.2)
  · exact ins_refl hx
theorem uni_ins {x y z : Int} (hx : St x) (hy : St y) (hz : St z) (h : ins x z = true) (h' : ins y z = true) : ins (uni x y) z = true :=
  (ins_iff (uni_st hx hy) hz).2 fun c hc e => by
    rw [hasc_uni hx hy hc, Bool.or_eq_true] at e
    rcases e with e | e
    · exact (ins_iff hx hz).1 h c hc e
    · exact (ins_iff hy hz).1 h' c hc e
theorem one_ins {c z : Int} (hc : Co c) (hz : St z) (h : hasc z c = true) : ins (one c) z = true :=
  (ins_iff (one_st hc) hz).2 fun d hd e => by
    rw [hasc_one hc hd] at e
    have : c = d := by simpa using e
    subst this; exact h
theorem stepD_min {x z : Int} {d : Int × Int} (hx : St x) (hz : St z) (hd : St d.1 ∧ Co d.2) (hxz : ins x z = true) (hc : ins d.1 z = true → hasc z d.2 = true) : ins (stepD x d) z = true := by
  unfold stepD; split
  · next h =>
    rw [insA_eq hd.1 hx] at h
    exact uni_ins hx (one_st hd.2) hz hxz (one_ins hd.2 hz (hc (ins_trans hd.1 hx hz h hxz)))
  · exact hxz
theorem roundD_st : ∀ {D : List (Int × Int)} {x : Int}, Val D → St x → St (roundD D x)
  | [], _, _, hx => hx
  | d :: D, x, hv, hx => roundD_st (D := D) hv.tail (stepD_st hx hv.head)
theorem roundD_up : ∀ {D : List (Int × Int)} {x : Int}, Val D → St x → ins x (roundD D x) = true
  | [], _, _, hx => ins_refl hx
  | d :: D, x, hv, hx => ins_trans hx (stepD_st hx hv.head) (roundD_st (D := D) hv.tail (stepD_st hx hv.head)) (stepD_up hx hv.head) (roundD_up (D := D) hv.tail (stepD_st hx hv.head))
theorem roundD_min : ∀ {D : List (Int × Int)} {x z : Int}, Val D → St x → St z → ins x z = true → Closed D z → ins (roundD D x) z = true
  | [], _, _, _, _, _, h, _ => h
  | d :: D, x, z, hv, hx, hz, h, hc =>
    roundD_min (D := D) hv.tail (stepD_st hx hv.head) hz (stepD_min hx hz hv.head h (hc d (List.mem_cons_self ..))) (fun e he => hc e (List.mem_cons_of_mem _ he))
/-- A round that adds nothing has met a closed set. -/
theorem roundD_same : ∀ {D : List (Int × Int)} {x : Int}, Val D → St x → roundD D x = x → Closed D x
  | [], _, _, _, _ => fun d hd => by cases hd
  | d :: D, x, hv, hx, h => by
    have h0 : stepD x d = x := ins_antisymm (stepD_st hx hv.head) hx (by
      have := roundD_up (D := D) hv.tail (stepD_st hx hv.head)
      have e : roundD D (stepD x d) = x := h
      rw [e] at this; exact this) (stepD_up hx hv.head)
    have h1 : roundD D x = x := by
      have e : roundD D (stepD x d) = x := h
      rw [h0] at e; exact e
    have ih := roundD_same (D := D) hv.tail hx h1
    intro e he
    rcases List.mem_cons.1 he with rfl | he
    · intro hi
      unfold stepD at h0
      rw [insA_eq hv.head.1 hx, if_pos hi] at h0
      have := hasc_uni hx (one_st hv.head.2) hv.head.2
      rw [h0, hasc_one hv.head.2 hv.head.2] at this
      simpa using this
    · exact ih e he
theorem closed_same {D : List (Int × Int)} {x : Int} (hv : Val D) (hx : St x) (hc : Closed D x) : roundD D x = x :=
  ins_antisymm (roundD_st hv hx) hx (roundD_min hv hx hx (ins_refl hx) hc) (roundD_up hv hx)

/-- how many columns -/
def card (x : Int) : Nat := ((List.range 5).filter fun (c : Nat) => hasc x c).length
theorem card_le (x : Int) : card x ≤ 5 := by
  unfold card
  have := List.length_filter_le (fun (c : Nat) => hasc x c) (List.range 5)
  simpa using this
theorem card_lt {x y : Int} (hx : St x) (hy : St y) (h : ins x y = true) (hne : x ≠ y) : card x < card y := by
  obtain ⟨n, hn, rfl⟩ := st_nat hx; obtain ⟨m, hm, rfl⟩ := st_nat hy
  have h' : ∀ n < 32, ∀ m < 32, ins (n : Nat) (m : Nat) = true → n ≠ m → card (n : Nat) < card (m : Nat) := by decide +kernel
  exact h' n hn m hm h (fun e => hne (by rw [e]))

theorem roundsD_st {D : List (Int × Int)} (hv : Val D) : ∀ (n : Nat) {x : Int}, St x → St (roundsD D n x)
  | 0, _, hx => hx
  | n + 1, _, hx => roundsD_st hv n (roundD_st hv hx)
theorem roundsD_up {D : List (Int × Int)} (hv : Val D) : ∀ (n : Nat) {x : Int}, St x → ins x (roundsD D n x) = true
  | 0, _, hx => ins_refl hx
  | n + 1, _, hx => ins_trans hx (roundD_st hv hx) (roundsD_st hv n (roundD_st hv hx)) (roundD_up hv hx) (roundsD_up hv n (roundD_st hv hx))
theorem roundsD_min {D : List (Int × Int)} (hv : Val D) : ∀ (n : Nat) {x z : Int}, St x → St z → ins x z = true → Closed D z → ins (roundsD D n x) z = true
  | 0, _, _, _, _, h, _ => h
  | n + 1, _, _, hx, hz, h, hc => roundsD_min hv n (roundD_st hv hx) hz (roundD_min hv hx hz h hc) hc
theorem roundsD_closed {D : List (Int × Int)} (hv : Val D) : ∀ (n : Nat) {x : Int}, St x → 6 ≤ n + card x → Closed D (roundsD D n x)
  | 0, x, hx, h => by have := card_le x; omega
  | n + 1, x, hx, h => by
    by_cases e : roundD D x = x
    · have hc := roundD_same hv hx e
      have hs : ∀ m, roundsD D m x = x := by
        intro m
        induction m with
        | zero => rfl
        | succ m ih => show roundsD D m (roundD D x) = x; rw [e]; exact ih
      rw [hs]; exact hc
    · exact roundsD_closed hv n (roundD_st hv hx) (by
        have := card_lt hx (roundD_st hv hx) (roundD_up hv hx) (fun h => e h.symm)
        omega)

theorem cloF_st {D : List (Int × Int)} {x : Int} (hv : Val D) (hx : St x) : St (cloF D x) := roundsD_st hv 6 hx
theorem cloF_up {D : List (Int × Int)} {x : Int} (hv : Val D) (hx : St x) : ins x (cloF D x) = true := roundsD_up hv 6 hx
theorem cloF_min {D : List (Int × Int)} {x z : Int} (hv : Val D) (hx : St x) (hz : St z) (h : ins x z = true) (hc : Closed D z) : ins (cloF D x) z = true := roundsD_min hv 6 hx hz h hc
theorem cloF_closed {D : List (Int × Int)} {x : Int} (hv : Val D) (hx : St x) : Closed D (cloF D x) := roundsD_closed hv 6 hx (by omega)
/-- The closure is known by what it does. -/
theorem cloF_unique {D : List (Int × Int)} {x y : Int} (hv : Val D) (hx : St x) (hy : St y) (hu : ins x y = true) (hc : Closed D y)
    (hm : ∀ z, St z → ins x z = true → Closed D z → ins y z = true) : y = cloF D x :=
  ins_antisymm hy (cloF_st hv hx) (hm _ (cloF_st hv hx) (cloF_up hv hx) (cloF_closed hv hx)) (cloF_min hv hx hy hu hc)
theorem cloF_same {D : List (Int × Int)} {x : Int} (hv : Val D) (hx : St x) (hc : Closed D x) : cloF D x = x :=
  (cloF_unique hv hx hx (ins_refl hx) hc fun z _ h _ => h).symm
end Go.Proofs.Ytjbmpnbfiahdhaa
namespace Go.Proofs.Ytjbmpnbfiahdhaa
open Go.RowKit
set_option linter.unusedVariables false
set_option maxRecDepth 100000

theorem Val.at_ {D : List (Int × Int)} (h : Val D) {k : Nat} (hk : k < D.length) : St (nl D k) ∧ Co (nr D k) :=
  h (nl D k, nr D k) (List.mem_iff_getElem?.2 ⟨k, dnth_eq hk⟩)
theorem closed_of {D : List (Int × Int)} {x : Int} (h : ∀ j, j < D.length → ins (nl D j) x = true → hasc x (nr D j) = true) : Closed D x := by
  intro d hd hi
  obtain ⟨k, hk⟩ := List.mem_iff_getElem?.1 hd
  have hlt : k < D.length := by
    rcases Nat.lt_or_ge k D.length with h | h
    · exact h
    · rw [List.getElem?_eq_none h] at hk; cases hk
  rw [dnth_eq hlt] at hk
  cases hk
  exact h k hlt hi
theorem Closed.at_ {D : List (Int × Int)} {x : Int} (h : Closed D x) {k : Nat} (hk : k < D.length) (hi : ins (nl D k) x = true) : hasc x (nr D k) = true :=
  h (nl D k, nr D k) (List.mem_iff_getElem?.2 ⟨k, dnth_eq hk⟩) hi

theorem c_closure (oa) (cap : Nat) (D : List (Int × Int)) (s : Int) (w : World) (hD : DepsAt w oa D) (hs : St s) (hv : Val D) :
    Ans Try.prog 107 #[.slice oa D.length cap, .int .i64 s] w (.int .i64 (cloF D s)) := by
  unfold Ans
  have hn : D.length ≤ 1073741824 := hD.len
  go_enter Try.func107, Try.ntmps107
  go_wp2
  go_loopw [1, 5] (fun t i wr => ∃ (x : Int) (k : Nat), t = .int .i64 x ∧ i = .int .i64 k ∧ k ≤ D.length ∧ St x ∧ ins s x = true ∧ (∀ z, St z → ins s z = true → Closed D z → ins x z = true) ∧
    (∀ j, j < k → ins (nl D j) x = true → hasc x (nr D j) = true) ∧ Below w.heap.size w wr) (fun t i _ => (31 - (intOf t).toNat) * (D.length + 1) + (D.length - (intOf i).toNat))
  case atStart => exact ⟨s, 0, rfl, rfl, Nat.zero_le _, hs, ins_refl hs, fun z _ h _ => h, fun j hj => absurd hj (by omega), Below.refl _ _⟩
  case round =>
    obtain ⟨x, k, rfl, rfl, hk, hx, hu, hm, hall, hb⟩ := hrel
    have HU : Hid (ins s x = true) := hu
    have HM : Hid (∀ z, St z → ins s z = true → Closed D z → ins x z = true) := hm
    have HA : Hid (∀ j, j < k → ins (nl D j) x = true → hasc x (nr D j) = true) := hall
    clear hu hm hall
    by_cases hlt : k < D.length
    · obtain ⟨b, off, rfl, hbs, hc⟩ := hD.at_ (by omega)
      have hc1 := cell_keep (hc k hlt).1 hb
      have hc2 := cell_keep (hc k hlt).2 hb
      obtain ⟨hvl, hvr⟩ := hv.at_ hlt
      have hr0 : 0 ≤ nr D k := hvr.1
      have hr1 : nr D k < 5 := hvr.2
      have hr2 : 0 ≤ nr D k ∧ nr D k < 64 := ⟨hr0, by omega⟩
      have HC : Hid (∀ z, Closed D z → ins (nl D k) z = true → hasc z (nr D k) = true) := fun z h hi => h.at_ hlt hi
      clear hc
      cases hi : ins (nl D k) x
      · go_wp2_with (first | (go_at_call 106; refine Calls.mono (c_inside _ _ _) ?_; rintro e w1 ⟨rfl, hbn⟩; replace hc1 := cell_keep hc1 hbn; replace hc2 := cell_keep hc2 hbn; replace hb := bel_to (w := w) (by first | exact hb | exact hb.alloc hb.size _ | exact (hb.alloc hb.size _).alloc (Nat.le_trans hb.size (by simp)) _ | exact hb.setCell (by simp [hb.size]) _) hbn; clear hbn))
        go_roundw
        case rel => exact ⟨x, k + 1, rfl, by go_num, by omega, hx, HU.out, HM.out, lt_step (p := fun j => ins (nl D j) x = true → hasc x (nr D j) = true) HA.out (fun h => by rw [hi] at h; cases h), hb⟩
        case measure => simp [intOf]; omega
      · cases hh : hasc x (nr D k)
        · have hlt2 := uni_lt hx hvr hh
          have hst := uni_st hx (one_st hvr)
          have HST : Hid (St (uni x (one (nr D k)))) := hst
          have HLT : Hid (x < uni x (one (nr D k))) := hlt2
          clear hst hlt2
          go_wp2_with (first | (go_at_call 106; refine Calls.mono (c_inside _ _ _) ?_; rintro e w1 ⟨rfl, hbn⟩; replace hc1 := cell_keep hc1 hbn; replace hc2 := cell_keep hc2 hbn; replace hb := bel_to (w := w) (by first | exact hb | exact hb.alloc hb.size _ | exact (hb.alloc hb.size _).alloc (Nat.le_trans hb.size (by simp)) _ | exact hb.setCell (by simp [hb.size]) _) hbn; clear hbn) | (go_at_call 105; refine Calls.mono (c_has _ _ hr2 _) ?_; rintro e w1 ⟨rfl, hbn⟩; replace hc1 := cell_keep hc1 hbn; replace hc2 := cell_keep hc2 hbn; replace hb := bel_to (w := w) (by first | exact hb | exact hb.alloc hb.size _ | exact (hb.alloc hb.size _).alloc (Nat.le_trans hb.size (by simp)) _ | exact hb.setCell (by simp [hb.size]) _) hbn; clear hbn))
          go_roundw
          case rel => exact ⟨uni x (one (nr D k)), 0, rfl, rfl, by omega, HST.out, ins_trans hs hx HST.out HU.out (ins_uni_left hx (one_st hvr)),
            fun z hz h h' => uni_ins hx (one_st hvr) hz (HM.out z hz h h') (one_ins hvr hz (HC.out z h' (ins_trans hvl hx hz hi (HM.out z hz h h')))), fun j hj => absurd hj (by omega), hb⟩
          case measure =>
            have h1 := HLT.out
            have h2 := HST.out.1
            have h3 := HST.out.2
            have h4 := hx.1
            show (31 - (uni x (one (nr D k))).toNat) * (D.length + 1) + (D.length - 0) < (31 - x.toNat) * (D.length + 1) + (D.length - k)
            generalize uni x (one (nr D k)) = y at *
            obtain ⟨m, hm⟩ : ∃ m, 31 - x.toNat = (31 - y.toNat) + 1 + m := ⟨(31 - x.toNat) - (31 - y.toNat) - 1, by omega⟩
            rw [hm, Nat.add_mul, Nat.add_mul]
            omega
        · go_wp2_with (first | (go_at_call 106; refine Calls.mono (c_inside _ _ _) ?_; rintro e w1 ⟨rfl, hbn⟩; replace hc1 := cell_keep hc1 hbn; replace hc2 := cell_keep hc2 hbn; replace hb := bel_to (w := w) (by first | exact hb | exact hb.alloc hb.size _ | exact (hb.alloc hb.size _).alloc (Nat.le_trans hb.size (by simp)) _ | exact hb.setCell (by simp [hb.size]) _) hbn; clear hbn) | (go_at_call 105; refine Calls.mono (c_has _ _ hr2 _) ?_; rintro e w1 ⟨rfl, hbn⟩; replace hc1 := cell_keep hc1 hbn; replace hc2 := cell_keep hc2 hbn; replace hb := bel_to (w := w) (by first | exact hb | exact hb.alloc hb.size _ | exact (hb.alloc hb.size _).alloc (Nat.le_trans hb.size (by simp)) _ | exact hb.setCell (by simp [hb.size]) _) hbn; clear hbn))
          go_roundw
          case rel => exact ⟨x, k + 1, rfl, by go_num, by omega, hx, HU.out, HM.out, lt_step (p := fun j => ins (nl D j) x = true → hasc x (nr D j) = true) HA.out (fun _ => hh), hb⟩
          case measure => simp [intOf]; omega
    · have hkk : k = D.length := by omega
      have HE : Hid (x = cloF D s) := cloF_unique hv hs hx HU.out (closed_of (by rw [← hkk]; exact HA.out)) HM.out
      clear hkk
      go_wp2
      go_ret
      exact ⟨ret_int HE.out, hb⟩
theorem drop_step {D : List (Int × Int)} {k : Nat} (hk : k < D.length) (y : Int) : roundD (D.drop k) y = roundD (D.drop (k + 1)) (stepD y (nl D k, nr D k)) := by
  have e : D.drop k = (nl D k, nr D k) :: D.drop (k + 1) := by
    rw [List.drop_eq_getElem_cons hk]
    congr 1
    have := dnth_eq hk
    rw [List.getElem?_eq_getElem hk] at this
    exact Option.some.inj this
  rw [e]; rfl

set_option maxHeartbeats 400000 in
theorem c_l10Close (oa) (cap : Nat) (D : List (Int × Int)) (s : Int) (w : World) (hD : DepsAt w oa D) (hs : St s) (hv : Val D) :
    Ans Try.prog 108 #[.slice oa D.length cap, .int .i64 s] w (.int .i64 (cloF D s)) := by
  unfold Ans
  have hn : D.length ≤ 1073741824 := hD.len
  go_enter Try.func108, Try.ntmps108
  go_wp2
  go_loopw [1, 5] (fun t i wr => ∃ (x : Int) (j : Nat), t = .int .i64 x ∧ i = .int .i64 j ∧ j ≤ 6 ∧ St x ∧ roundsD D (6 - j) x = cloF D s ∧ Below w.heap.size w wr) (fun _ i _ => 6 - (intOf i).toNat)
  case atStart => exact ⟨s, 0, rfl, rfl, by omega, hs, rfl, Below.refl _ _⟩
  case round =>
    obtain ⟨x, j, rfl, rfl, hj, hx, hcl, hb⟩ := hrel
    have HC : Hid (roundsD D (6 - j) x = cloF D s) := hcl
    clear hcl
    by_cases hjl : j < 6
    · have HC' : Hid (roundsD D (6 - (j + 1)) (roundD D x) = cloF D s) := by
        have e : 6 - j = (6 - (j + 1)) + 1 := by omega
        have := HC.out; rw [e] at this; exact this
      clear HC
      go_wp2
      obtain ⟨wo, rfl⟩ : ∃ wo : World, wo = wr := ⟨_, rfl⟩
      go_loopw [1, 6] (fun t i wr => ∃ (y : Int) (k : Nat), t = .int .i64 y ∧ i = .int .i64 k ∧ k ≤ D.length ∧ St y ∧ roundD (D.drop k) y = roundD D x ∧ Below w.heap.size w wr) (fun _ i _ => D.length - (intOf i).toNat)
      case atStart => exact ⟨x, 0, rfl, rfl, by omega, hx, rfl, hb⟩
      case round =>
        clear hb
        obtain ⟨y, k, rfl, rfl, hk, hy, hro, hb⟩ := hrel
        have HR : Hid (roundD (D.drop k) y = roundD D x) := hro
        clear hro
        by_cases hlt : k < D.length
        · obtain ⟨b, off, rfl, hbs, hc⟩ := hD.at_ (by omega)
          have hc1 := cell_keep (hc k hlt).1 hb
          have hc2 := cell_keep (hc k hlt).2 hb
          obtain ⟨hvl, hvr⟩ := hv.at_ hlt
          have hr0 : 0 ≤ nr D k := hvr.1
          have hr1 : nr D k < 5 := hvr.2
          have HS := drop_step hlt y
          have HST : Hid (St (stepD y (nl D k, nr D k))) := stepD_st hy ⟨hvl, hvr⟩
          have HR2 : Hid (roundD (D.drop (k + 1)) (stepD y (nl D k, nr D k)) = roundD D x) := by rw [← HS]; exact HR.out
          clear hc HS
          cases hi : insA (nl D k) y
          · have hi2 : (bits BinOp.and IntKind.i64 (nl D k) y == nl D k) = false := hi
            have e : stepD y (nl D k, nr D k) = y := by unfold stepD; rw [if_neg (by rw [hi]; simp)]
            rw [e] at HST HR2
            clear e
            go_wp2_with fail
            (refine wp_region_after (by kernel_rfl) (by kernel_rfl) ?_; have q_hc1 := fun (x : After _) => cell_keep hc1 x.bel; have q_hc2 := fun (x : After _) => cell_keep hc2 x.bel; (repeat (go_big_quiet_step (fail))); clear q_hc1; clear q_hc2; refine wpQuiet_nil ?_; rintro _ ⟨⟨w1, hbn⟩, rfl⟩; (try simp only [After.w]); replace hc1 := cell_keep hc1 hbn; replace hc2 := cell_keep hc2 hbn; replace hb := bel_to (w := w) (by first | exact hb | exact hb.alloc hb.size _ | exact (hb.alloc hb.size _).alloc (Nat.le_trans hb.size (by simp)) _ | exact hb.setCell (by simp [hb.size]) _) hbn; clear hbn)
            go_wp2
            go_roundw
            case rel => exact ⟨y, k + 1, rfl, by go_num, by omega, hy, HR2.out, hb⟩
            case measure => simp [intOf]; omega
          · have hi2 : (bits BinOp.and IntKind.i64 (nl D k) y == nl D k) = true := hi
            have e : stepD y (nl D k, nr D k) = uni y (one (nr D k)) := by unfold stepD; rw [if_pos hi]
            rw [e] at HST HR2
            clear e
            go_wp2_with fail
            (refine wp_region_after (by kernel_rfl) (by kernel_rfl) ?_; have q_hc1 := fun (x : After _) => cell_keep hc1 x.bel; have q_hc2 := fun (x : After _) => cell_keep hc2 x.bel; (repeat (go_big_quiet_step (fail))); clear q_hc1; clear q_hc2; refine wpQuiet_nil ?_; rintro _ ⟨⟨w1, hbn⟩, rfl⟩; (try simp only [After.w]); replace hc1 := cell_keep hc1 hbn; replace hc2 := cell_keep hc2 hbn; replace hb := bel_to (w := w) (by first | exact hb | exact hb.alloc hb.size _ | exact (hb.alloc hb.size _).alloc (Nat.le_trans hb.size (by simp)) _ | exact hb.setCell (by simp [hb.size]) _) hbn; clear hbn)
            go_wp2
            go_roundw
            case rel => exact ⟨uni y (one (nr D k)), k + 1, rfl, by go_num, by omega, HST.out, HR2.out, hb⟩
            case measure => simp [intOf]; omega
        · have hkk : k = D.length := by omega
          have HY : Hid (y = roundD D x) := by have := HR.out; rw [hkk, List.drop_length] at this; exact this
          clear hkk
          go_wp2
          go_roundw
          case rel => exact ⟨y, j + 1, rfl, by go_num, by omega, hy, by rw [HY.out]; exact HC'.out, hb⟩
          case measure => simp [intOf]; omega
    · have hjj : j = 6 := by omega
      have HE : Hid (x = cloF D s) := by have := HC.out; rw [hjj] at this; exact this
      clear hjj
      go_wp2
      go_ret
      exact ⟨ret_int HE.out, hb⟩
end Go.Proofs.Ytjbmpnbfiahdhaa
namespace Go.Proofs.Ytjbmpnbfiahdhaa
open Go.RowKit
set_option linter.unusedVariables false
set_option maxRecDepth 100000

def impF (D : List (Int × Int)) (l r : Int) : Bool := hasc (cloF D l) r
def closureOfF (n : Int) (D : List (Int × Int)) (s : Int) : Int := if areDepsF n D && isAttr n s then cloF D s else 0
def impliesDepF (n : Int) (D : List (Int × Int)) (l r : Int) : Bool := areDepsF n D && (isDepF n l r && impF D l r)

theorem isAttr_st {n x : Int} (h : isAttr n x = true) : St x ∧ 0 ≤ n ∧ n ≤ 5 := by
  simp only [isAttr, Bool.and_eq_true, decide_eq_true_eq] at h
  obtain ⟨⟨⟨h0, h5⟩, hx0⟩, hx⟩ := h
  have := (pow_wrap h0 h5).2.1
  exact ⟨⟨hx0, Int.lt_of_lt_of_le hx this⟩, h0, h5⟩
theorem isDepF_val {n l r : Int} (h : isDepF n l r = true) : (St l ∧ Co r) ∧ 1 ≤ n ∧ n ≤ 5 := by
  simp only [isDepF, Bool.and_eq_true, decide_eq_true_eq] at h
  obtain ⟨⟨⟨h1, ha⟩, h0⟩, hr⟩ := h
  have := isAttr_st ha
  exact ⟨⟨this.1, h0, by omega⟩, h1, this.2.2⟩
theorem areDepsF_val {n : Int} {D : List (Int × Int)} (h : areDepsF n D = true) : Val D ∧ 1 ≤ n ∧ n ≤ 5 ∧ D.length ≤ 20 := by
  simp only [areDepsF, Bool.and_eq_true, decide_eq_true_eq, List.all_eq_true] at h
  exact ⟨fun d hd => (isDepF_val (h.1 d hd)).1, h.2.1.1, h.2.1.2, h.2.2⟩
theorem co64 {r : Int} (h : Co r) : 0 ≤ r ∧ r < 64 := ⟨h.1, by have := h.2; omega⟩

theorem box_at (w : World) (c : Array Value) (T : TypeId) (j : Nat) (v : Value) (h : c[j]? = some v) : (w.alloc (.cells c T)).cell? ⟨w.heap.size, j, none⟩ = some v := by
  simp only [World.cell?, heap_alloc_new]; exact h

theorem c_implies (oa) (cap : Nat) (D : List (Int × Int)) (l r : Int) (w : World) (hD : DepsAt w oa D) (hv : Val D) (hl : St l) (hr : Co r) :
    Ans Try.prog 104 #[.slice oa D.length cap, .agg #[.int .i64 l, .int .i64 r]] w (.bool (impF D l r)) := by
  unfold Ans
  have hr' := co64 hr
  have hb := (Below.refl w.heap.size w).alloc (Nat.le_refl _) (.cells #[.int .i64 l, .int .i64 r] 55)
  have b0 := box_at w #[.int .i64 l, .int .i64 r] 55 0 _ rfl
  have b1 := box_at w #[.int .i64 l, .int .i64 r] 55 1 _ rfl
  have hDx := fun x : After (w.alloc (.cells #[.int .i64 l, .int .i64 r] 55)) => hD.keep (bel_to hb x.bel)
  go_enter Try.func104, Try.ntmps104
  go_wp2_with fail
  (refine wp_region_after (by kernel_rfl) (by kernel_rfl) ?_; have q_b0 := fun (x : After _) => cell_keep b0 x.bel; have q_b1 := fun (x : After _) => cell_keep b1 x.bel; (repeat (go_big_quiet_step ((first | (go_at_call 107; exact Ans.after (c_closure _ _ _ _ _ (hDx _) hl hv)) | (go_at_call 105; exact Ans.after (c_has _ _ hr' _)))))); clear q_b0; clear q_b1; refine wpQuiet_nil ?_; rintro _ ⟨⟨w1, hbn⟩, rfl⟩; (try simp only [After.w]); replace b0 := cell_keep b0 hbn; replace b1 := cell_keep b1 hbn; replace hb := bel_to (w := w) (by first | exact hb | exact hb.alloc hb.size _ | exact (hb.alloc hb.size _).alloc (Nat.le_trans hb.size (by simp)) _ | exact hb.setCell (by simp [hb.size]) _) hbn; clear hbn)
  go_wp2
  go_ret
  exact ⟨rfl, hb⟩

theorem c_ClosureOf (n : Int) (oa) (cap : Nat) (D : List (Int × Int)) (s : Int) (w : World) (hD : DepsAt w oa D) :
    Ans Try.prog 44 #[.int .i64 n, .slice oa D.length cap, .int .i64 s] w (.int .i64 (closureOfF n D s)) := by
  unfold Ans
  have hb := Below.refl w.heap.size w
  cases ha : areDepsF n D
  · go_enter Try.func44, Try.ntmps44
    go_wp2_with (first | (go_at_call 82; refine Calls.mono (c_AreDeps _ _ _ _ _ hD) ?_; rintro e w1 ⟨rfl, hbn⟩; replace hb := bel_to (w := w) (by first | exact hb | exact hb.alloc hb.size _ | exact (hb.alloc hb.size _).alloc (Nat.le_trans hb.size (by simp)) _ | exact hb.setCell (by simp [hb.size]) _) hbn; clear hbn))
    go_ret
    exact ⟨ret_int (by simp [closureOfF, ha]), hb⟩
  · have hv := (areDepsF_val ha).1
    cases hi : isAttr n s
    · go_enter Try.func44, Try.ntmps44
      go_wp2_with (first | (go_at_call 82; refine Calls.mono (c_AreDeps _ _ _ _ _ hD) ?_; rintro e w1 ⟨rfl, hbn⟩; replace hb := bel_to (w := w) (by first | exact hb | exact hb.alloc hb.size _ | exact (hb.alloc hb.size _).alloc (Nat.le_trans hb.size (by simp)) _ | exact hb.setCell (by simp [hb.size]) _) hbn; clear hbn) | (go_at_call 116; refine Calls.mono (c_isAttributes _ _ _) ?_; rintro e w1 ⟨rfl, hbn⟩; replace hb := bel_to (w := w) (by first | exact hb | exact hb.alloc hb.size _ | exact (hb.alloc hb.size _).alloc (Nat.le_trans hb.size (by simp)) _ | exact hb.setCell (by simp [hb.size]) _) hbn; clear hbn))
      go_ret
      exact ⟨ret_int (by simp [closureOfF, ha, hi]), hb⟩
    · have hs := (isAttr_st hi).1
      go_enter Try.func44, Try.ntmps44
      go_wp2_with (first | (go_at_call 82; refine Calls.mono (c_AreDeps _ _ _ _ _ hD) ?_; rintro e w1 ⟨rfl, hbn⟩; replace hb := bel_to (w := w) (by first | exact hb | exact hb.alloc hb.size _ | exact (hb.alloc hb.size _).alloc (Nat.le_trans hb.size (by simp)) _ | exact hb.setCell (by simp [hb.size]) _) hbn; clear hbn) | (go_at_call 116; refine Calls.mono (c_isAttributes _ _ _) ?_; rintro e w1 ⟨rfl, hbn⟩; replace hb := bel_to (w := w) (by first | exact hb | exact hb.alloc hb.size _ | exact (hb.alloc hb.size _).alloc (Nat.le_trans hb.size (by simp)) _ | exact hb.setCell (by simp [hb.size]) _) hbn; clear hbn) | (go_at_call 107; refine Calls.mono (c_closure _ _ _ _ _ (hD.keep hb) hs hv) ?_; rintro e w1 ⟨rfl, hbn⟩; replace hb := bel_to (w := w) (by first | exact hb | exact hb.alloc hb.size _ | exact (hb.alloc hb.size _).alloc (Nat.le_trans hb.size (by simp)) _ | exact hb.setCell (by simp [hb.size]) _) hbn; clear hbn))
      go_ret
      exact ⟨ret_int (by simp [closureOfF, ha, hi]), hb⟩

theorem c_specClosureOf (n : Int) (oa) (cap : Nat) (D : List (Int × Int)) (s : Int) (w : World) (hD : DepsAt w oa D) :
    Ans Try.prog 48 #[.int .i64 n, .slice oa D.length cap, .int .i64 s] w (.int .i64 (closureOfF n D s)) := by
  unfold Ans
  have hb := Below.refl w.heap.size w
  cases ha : areDepsF n D
  · go_enter Try.func48, Try.ntmps48
    go_wp2_with (first | (go_at_call 37; refine Calls.mono (c_specAreDeps _ _ _ _ _ hD) ?_; rintro e w1 ⟨rfl, hbn⟩; replace hb := bel_to (w := w) (by first | exact hb | exact hb.alloc hb.size _ | exact (hb.alloc hb.size _).alloc (Nat.le_trans hb.size (by simp)) _ | exact hb.setCell (by simp [hb.size]) _) hbn; clear hbn))
    go_ret
    exact ⟨ret_int (by simp [closureOfF, ha]), hb⟩
  · have hv := (areDepsF_val ha).1
    cases hi : isAttr n s
    · go_enter Try.func48, Try.ntmps48
      go_wp2_with (first | (go_at_call 37; refine Calls.mono (c_specAreDeps _ _ _ _ _ hD) ?_; rintro e w1 ⟨rfl, hbn⟩; replace hb := bel_to (w := w) (by first | exact hb | exact hb.alloc hb.size _ | exact (hb.alloc hb.size _).alloc (Nat.le_trans hb.size (by simp)) _ | exact hb.setCell (by simp [hb.size]) _) hbn; clear hbn) | (go_at_call 49; refine Calls.mono (c_specIsAttributes _ _ _) ?_; rintro e w1 ⟨rfl, hbn⟩; replace hb := bel_to (w := w) (by first | exact hb | exact hb.alloc hb.size _ | exact (hb.alloc hb.size _).alloc (Nat.le_trans hb.size (by simp)) _ | exact hb.setCell (by simp [hb.size]) _) hbn; clear hbn))
      go_ret
      exact ⟨ret_int (by simp [closureOfF, ha, hi]), hb⟩
    · have hs := (isAttr_st hi).1
      go_enter Try.func48, Try.ntmps48
      go_wp2_with (first | (go_at_call 37; refine Calls.mono (c_specAreDeps _ _ _ _ _ hD) ?_; rintro e w1 ⟨rfl, hbn⟩; replace hb := bel_to (w := w) (by first | exact hb | exact hb.alloc hb.size _ | exact (hb.alloc hb.size _).alloc (Nat.le_trans hb.size (by simp)) _ | exact hb.setCell (by simp [hb.size]) _) hbn; clear hbn) | (go_at_call 49; refine Calls.mono (c_specIsAttributes _ _ _) ?_; rintro e w1 ⟨rfl, hbn⟩; replace hb := bel_to (w := w) (by first | exact hb | exact hb.alloc hb.size _ | exact (hb.alloc hb.size _).alloc (Nat.le_trans hb.size (by simp)) _ | exact hb.setCell (by simp [hb.size]) _) hbn; clear hbn) | (go_at_call 108; refine Calls.mono (c_l10Close _ _ _ _ _ (hD.keep hb) hs hv) ?_; rintro e w1 ⟨rfl, hbn⟩; replace hb := bel_to (w := w) (by first | exact hb | exact hb.alloc hb.size _ | exact (hb.alloc hb.size _).alloc (Nat.le_trans hb.size (by simp)) _ | exact hb.setCell (by simp [hb.size]) _) hbn; clear hbn))
      go_ret
      exact ⟨ret_int (by simp [closureOfF, ha, hi]), hb⟩

theorem c_ImpliesDep (n : Int) (oa) (cap : Nat) (D : List (Int × Int)) (l r : Int) (w : World) (hD : DepsAt w oa D) :
    Ans Try.prog 32 #[.int .i64 n, .slice oa D.length cap, .agg #[.int .i64 l, .int .i64 r]] w (.bool (impliesDepF n D l r)) := by
  unfold Ans
  have hb := (Below.refl w.heap.size w).alloc (Nat.le_refl _) (.cells #[.int .i64 l, .int .i64 r] 55)
  have b0 := box_at w #[.int .i64 l, .int .i64 r] 55 0 _ rfl
  have b1 := box_at w #[.int .i64 l, .int .i64 r] 55 1 _ rfl
  cases ha : areDepsF n D
  · go_enter Try.func32, Try.ntmps32
    go_wp2_with (first | (go_at_call 82; refine Calls.mono (c_AreDeps _ _ _ _ _ (hD.keep hb)) ?_; rintro e w1 ⟨rfl, hbn⟩; replace hb := bel_to (w := w) (by first | exact hb | exact hb.alloc hb.size _ | exact (hb.alloc hb.size _).alloc (Nat.le_trans hb.size (by simp)) _ | exact hb.setCell (by simp [hb.size]) _) hbn; clear hbn))
    go_ret
    exact ⟨ret_bool (by simp [impliesDepF, ha]), hb⟩
  · have hv := (areDepsF_val ha).1
    cases hi : isDepF n l r
    · go_enter Try.func32, Try.ntmps32
      go_wp2_with (first | (go_at_call 82; refine Calls.mono (c_AreDeps _ _ _ _ _ (hD.keep hb)) ?_; rintro e w1 ⟨rfl, hbn⟩; replace b0 := cell_keep b0 hbn; replace b1 := cell_keep b1 hbn; replace hb := bel_to (w := w) (by first | exact hb | exact hb.alloc hb.size _ | exact (hb.alloc hb.size _).alloc (Nat.le_trans hb.size (by simp)) _ | exact hb.setCell (by simp [hb.size]) _) hbn; clear hbn) | (go_at_call 59; refine Calls.mono (c_isDep _ _ _ _) ?_; rintro e w1 ⟨rfl, hbn⟩; replace b0 := cell_keep b0 hbn; replace b1 := cell_keep b1 hbn; replace hb := bel_to (w := w) (by first | exact hb | exact hb.alloc hb.size _ | exact (hb.alloc hb.size _).alloc (Nat.le_trans hb.size (by simp)) _ | exact hb.setCell (by simp [hb.size]) _) hbn; clear hbn))
      go_ret
      exact ⟨ret_bool (by simp [impliesDepF, ha, hi]), hb⟩
    · obtain ⟨⟨hl, hr⟩, h15⟩ := isDepF_val hi
      go_enter Try.func32, Try.ntmps32
      go_wp2_with (first | (go_at_call 82; refine Calls.mono (c_AreDeps _ _ _ _ _ (hD.keep hb)) ?_; rintro e w1 ⟨rfl, hbn⟩; replace b0 := cell_keep b0 hbn; replace b1 := cell_keep b1 hbn; replace hb := bel_to (w := w) (by first | exact hb | exact hb.alloc hb.size _ | exact (hb.alloc hb.size _).alloc (Nat.le_trans hb.size (by simp)) _ | exact hb.setCell (by simp [hb.size]) _) hbn; clear hbn) | (go_at_call 59; refine Calls.mono (c_isDep _ _ _ _) ?_; rintro e w1 ⟨rfl, hbn⟩; replace b0 := cell_keep b0 hbn; replace b1 := cell_keep b1 hbn; replace hb := bel_to (w := w) (by first | exact hb | exact hb.alloc hb.size _ | exact (hb.alloc hb.size _).alloc (Nat.le_trans hb.size (by simp)) _ | exact hb.setCell (by simp [hb.size]) _) hbn; clear hbn) | (go_at_call 104; refine Calls.mono (c_implies _ _ _ _ _ _ (hD.keep hb) hv hl hr) ?_; rintro e w1 ⟨rfl, hbn⟩; replace hb := bel_to (w := w) (by first | exact hb | exact hb.alloc hb.size _ | exact (hb.alloc hb.size _).alloc (Nat.le_trans hb.size (by simp)) _ | exact hb.setCell (by simp [hb.size]) _) hbn; clear hbn))
      go_ret
      exact ⟨ret_bool (by simp [impliesDepF, ha, hi]), hb⟩
theorem c_specImpliesDep (n : Int) (oa) (cap : Nat) (D : List (Int × Int)) (l r : Int) (w : World) (hD : DepsAt w oa D) :
    Ans Try.prog 35 #[.int .i64 n, .slice oa D.length cap, .agg #[.int .i64 l, .int .i64 r]] w (.bool (impliesDepF n D l r)) := by
  unfold Ans
  have hb := (Below.refl w.heap.size w).alloc (Nat.le_refl _) (.cells #[.int .i64 l, .int .i64 r] 55)
  have b0 := box_at w #[.int .i64 l, .int .i64 r] 55 0 _ rfl
  have b1 := box_at w #[.int .i64 l, .int .i64 r] 55 1 _ rfl
  have hDx := fun x : After (w.alloc (.cells #[.int .i64 l, .int .i64 r] 55)) => hD.keep (bel_to hb x.bel)
  cases ha : areDepsF n D
  · go_enter Try.func35, Try.ntmps35
    go_wp2_with fail
    (refine wp_region_after (by kernel_rfl) (by kernel_rfl) ?_; have q_b0 := fun (x : After _) => cell_keep b0 x.bel; have q_b1 := fun (x : After _) => cell_keep b1 x.bel; (repeat (go_big_quiet_step ((first | (go_at_call 37; exact Ans.after (Ans.eqb (c_specAreDeps _ _ _ _ _ (hDx _)) ha)))))); clear q_b0; clear q_b1; refine wpQuiet_nil ?_; rintro _ ⟨⟨w1, hbn⟩, rfl⟩; (try simp only [After.w]); replace b0 := cell_keep b0 hbn; replace b1 := cell_keep b1 hbn; replace hb := bel_to (w := w) (by first | exact hb | exact hb.alloc hb.size _ | exact (hb.alloc hb.size _).alloc (Nat.le_trans hb.size (by simp)) _ | exact hb.setCell (by simp [hb.size]) _) hbn; clear hbn)
    go_wp2
    go_ret
    exact ⟨ret_bool (by simp [impliesDepF, ha]), hb⟩
  · have hv := (areDepsF_val ha).1
    cases hi : isDepF n l r
    · go_enter Try.func35, Try.ntmps35
      go_wp2_with fail
      (refine wp_region_after (by kernel_rfl) (by kernel_rfl) ?_; have q_b0 := fun (x : After _) => cell_keep b0 x.bel; have q_b1 := fun (x : After _) => cell_keep b1 x.bel; (repeat (go_big_quiet_step ((first | (go_at_call 37; exact Ans.after (Ans.eqb (c_specAreDeps _ _ _ _ _ (hDx _)) ha)) | (go_at_call 38; exact Ans.after (Ans.eqb (c_specIsDep _ _ _ _) hi)))))); clear q_b0; clear q_b1; refine wpQuiet_nil ?_; rintro _ ⟨⟨w1, hbn⟩, rfl⟩; (try simp only [After.w]); replace b0 := cell_keep b0 hbn; replace b1 := cell_keep b1 hbn; replace hb := bel_to (w := w) (by first | exact hb | exact hb.alloc hb.size _ | exact (hb.alloc hb.size _).alloc (Nat.le_trans hb.size (by simp)) _ | exact hb.setCell (by simp [hb.size]) _) hbn; clear hbn)
      go_wp2
      go_ret
      exact ⟨ret_bool (by simp [impliesDepF, ha, hi]), hb⟩
    · obtain ⟨⟨hl, hr⟩, h15⟩ := isDepF_val hi
      have hr0 : 0 ≤ r := hr.1
      have hr1 : r < 5 := hr.2
      go_enter Try.func35, Try.ntmps35
      go_wp2_with fail
      (refine wp_region_after (by kernel_rfl) (by kernel_rfl) ?_; have q_b0 := fun (x : After _) => cell_keep b0 x.bel; have q_b1 := fun (x : After _) => cell_keep b1 x.bel; (repeat (go_big_quiet_step ((first | (go_at_call 37; exact Ans.after (Ans.eqb (c_specAreDeps _ _ _ _ _ (hDx _)) ha)) | (go_at_call 38; exact Ans.after (Ans.eqb (c_specIsDep _ _ _ _) hi)) | (go_at_call 108; exact Ans.after (c_l10Close _ _ _ _ _ (hDx _) hl hv)))))); clear q_b0; clear q_b1; refine wpQuiet_nil ?_; rintro _ ⟨⟨w1, hbn⟩, rfl⟩; (try simp only [After.w]); replace b0 := cell_keep b0 hbn; replace b1 := cell_keep b1 hbn; replace hb := bel_to (w := w) (by first | exact hb | exact hb.alloc hb.size _ | exact (hb.alloc hb.size _).alloc (Nat.le_trans hb.size (by simp)) _ | exact hb.setCell (by simp [hb.size]) _) hbn; clear hbn)
      go_wp2
      go_ret
      exact ⟨ret_bool (by simp [impliesDepF, ha, hi]; rfl), hb⟩
end Go.Proofs.Ytjbmpnbfiahdhaa
namespace Go.Proofs.Ytjbmpnbfiahdhaa
open Go.RowKit
set_option linter.unusedVariables false
set_option maxRecDepth 100000

theorem c_eqIntSS (oa ob) (ca cb : Nat) (R : List (List Int)) (w : World) (hA : RowsAt w oa R) (hB : RowsAt w ob R) :
    Ans Try.prog 84 #[.slice oa R.length ca, .slice ob R.length cb] w (.bool true) := by
  unfold Ans
  have hn : R.length ≤ 1073741824 := hA.len
  have hne : ((R.length : Int) != R.length) = false := by simp
  go_enter Try.func84, Try.ntmps84
  go_wp2
  go_loopw [5] (fun i wr => ∃ k : Nat, i = .int .i64 k ∧ k ≤ R.length ∧ Below w.heap.size w wr) (fun i _ => R.length - (intOf i).toNat)
  case atStart => exact ⟨0, rfl, Nat.zero_le _, Below.refl _ _⟩
  case round =>
    obtain ⟨k, rfl, hk, hb⟩ := hrel
    by_cases hlt : k < R.length
    · obtain ⟨b1, off1, rfl, hbs1, hca⟩ := hA.at_ (by omega)
      obtain ⟨b2, off2, rfl, hbs2, hcb⟩ := hB.at_ (by omega)
      obtain ⟨o1, c1, h1, hr1⟩ := hca k hlt
      obtain ⟨o2, c2, h2, hr2⟩ := hcb k hlt
      have hc1 := cell_keep h1 hb
      have hc2 := cell_keep h2 hb
      have hx1 := fun (x : After wr) => (hr1.keep hb).keep x.bel
      have hx2 := fun (x : After wr) => (hr2.keep hb).keep x.bel
      clear hca hcb h1 h2 hr1 hr2
      go_wp2_with fail
      (refine wp_region_after (by kernel_rfl) (by kernel_rfl) ?_; have q_hc1 := fun (x : After _) => cell_keep hc1 x.bel; have q_hc2 := fun (x : After _) => cell_keep hc2 x.bel; (repeat (go_big_quiet_step ((first | (go_at_call 155; exact Ans.after (Ans.eqb (b' := true) (c_eqIntS _ _ _ _ _ _ _ (hx1 _) (hx2 _)) (by simp))))))); clear q_hc1; clear q_hc2; refine wpQuiet_nil ?_; rintro _ ⟨⟨w1, hbn⟩, rfl⟩; (try simp only [After.w]); replace hc1 := cell_keep hc1 hbn; replace hc2 := cell_keep hc2 hbn; replace hb := bel_to (w := w) (by first | exact hb | exact hb.alloc hb.size _ | exact (hb.alloc hb.size _).alloc (Nat.le_trans hb.size (by simp)) _ | exact hb.setCell (by simp [hb.size]) _) hbn; clear hbn)
      go_wp2
      go_roundw
      case rel => exact ⟨k + 1, by go_num, by omega, hb⟩
      case measure => simp [intOf]; omega
    · go_wp2
      go_ret
      exact ⟨rfl, hb⟩

def tabV (n : Int) (o : Option Addr) (l c : Nat) : Value := .agg #[.int .i64 n, .slice o l c]
theorem c_szTable (n : Int) (oa) (l cap : Nat) (Ln : Nat → Nat) (w : World) (h : RowsIn w oa l Ln) :
    Calls Try.prog 19 #[.agg #[.int .i64 n, .slice oa l cap], .int .i64 1048576] w fun e w' => (∃ x : Int, e = .returned (.int .i64 x) ∧ (x = -1 ∨ (0 ≤ x ∧ x ≤ 1048576 ∧ l ≤ 1048576 ∧ ∀ r, r < l → Ln r ≤ 1048576))) ∧ Below w.heap.size w w' := by
  have hb := (Below.refl w.heap.size w).alloc (Nat.le_refl _) (.cells #[.int .i64 n, .slice oa l cap] 36)
  have h2 : RowsIn (w.alloc (.cells #[.int .i64 n, .slice oa l cap] 36)) oa l Ln := ⟨h.len, fun h0 => by
    obtain ⟨b, off, e, hlt, hr⟩ := h.rows h0
    have hk := (Below.refl w.heap.size w).alloc (Nat.le_refl _) (.cells #[.int .i64 n, .slice oa l cap] 36)
    exact ⟨b, off, e, Nat.lt_of_lt_of_le hlt hk.size, fun r hrl => by
      obtain ⟨m, o, c, h1, h2⟩ := hr r hrl
      exact ⟨m, o, c, cell_keep h1 hk, fun hq => by
        obtain ⟨L, e1, e2⟩ := h2 hq
        exact ⟨L, e1, e2.keep hk⟩⟩⟩⟩
  go_enter Try.func19, Try.ntmps19
  go_wp2_with fail
  refine (c_szIntSS _ _ _ _ _ h2).mono ?_
  rintro e w1 ⟨⟨x, rfl, hx⟩, hbn⟩
  replace hb := bel_to hb hbn
  clear hbn
  rcases hx with rfl | ⟨h0, h1, h3, h4⟩
  · go_wp2
    go_ret
    exact ⟨⟨_, rfl, .inl rfl⟩, hb⟩
  · go_wp2
    go_ret
    exact ⟨⟨_, rfl, .inr ⟨h0, h1, h3, h4⟩⟩, hb⟩
theorem c_eqTable (n : Int) (oa ob) (ca cb : Nat) (R : List (List Int)) (w : World) (hA : RowsAt w oa R) (hB : RowsAt w ob R) :
    Ans Try.prog 14 #[.agg #[.int .i64 n, .slice oa R.length ca], .agg #[.int .i64 n, .slice ob R.length cb]] w (.bool true) := by
  unfold Ans
  have hne : (n != n) = false := by simp
  have hb := ((Below.refl w.heap.size w).alloc (Nat.le_refl _) (.cells #[.int .i64 n, .slice oa R.length ca] 26)).alloc (by simp) (.cells #[.int .i64 n, .slice ob R.length cb] 26)
  go_enter Try.func14, Try.ntmps14
  go_wp2_with (first | (go_at_call 84; refine Calls.mono (c_eqIntSS _ _ _ _ _ _ (hA.keep hb) (hB.keep hb)) ?_; rintro e w1 ⟨rfl, hbn⟩; replace hb := bel_to (w := w) (by first | exact hb | exact hb.alloc hb.size _ | exact (hb.alloc hb.size _).alloc (Nat.le_trans hb.size (by simp)) _ | exact hb.setCell (by simp [hb.size]) _) hbn; clear hbn))
  go_ret
  exact ⟨rfl, hb⟩
theorem c_toTable (n : Int) (oa) (ca : Nat) (R : List (List Int)) (w : World) (hR : RowsAt w oa R) :
    Calls Try.prog 21 #[.agg #[.int .i64 n, .slice oa R.length ca]] w fun e w' => ∃ o c, e = .returned (.agg #[.int .i64 n, .slice o R.length c]) ∧ RowsAt w' o R ∧ Below w.heap.size w w' := by
  have hb0 := ((((Below.refl w.heap.size w).alloc (Nat.le_refl _) (.cells #[.int .i64 n, .slice oa R.length ca] 36)).alloc (by simp) (.cells #[.int .i64 0, .slice none 0 0] 26)).alloc (by simp; omega) (.cells #[.int .i64 n, .slice none 0 0] 26))
  go_enter Try.func21, Try.ntmps21
  go_wp2_with fail
  refine (c_toIntSS _ _ _ _ (hR.keep hb0)).mono ?_
  rintro e w1 ⟨o, c, rfl, hN, hbn⟩
  have k1 : Blk w1 (w.heap.size + 1) #[.int .i64 0, .slice none 0 0] 26 := by
    have := (Blk.new (w.alloc (.cells #[.int .i64 n, .slice oa R.length ca] 36)) #[.int .i64 0, .slice none 0 0] 26).alloc (.cells #[.int .i64 n, .slice none 0 0] 26)
    simp only [World.size_alloc] at this
    exact this.keep hbn
  have k2 : Blk w1 (w.heap.size + 1 + 1) #[.int .i64 n, .slice none 0 0] 26 := by
    have := Blk.new ((w.alloc (.cells #[.int .i64 n, .slice oa R.length ca] 36)).alloc (.cells #[.int .i64 0, .slice none 0 0] 26)) #[.int .i64 n, .slice none 0 0] 26
    simp only [World.size_alloc] at this
    exact this.keep hbn
  have a10 := k1.cell 0 _ rfl
  have a11 := k1.cell 1 _ rfl
  have f10 := k1.free 0
  have f11 := k1.free 1
  have a20 := k2.cell 0 _ rfl
  have a21 := k2.cell 1 _ rfl
  have f20 := k2.free 0
  have f21 := k2.free 1
  replace hb0 := bel_to hb0 hbn
  clear hbn k1 k2
  go_wp2
  exact bodyPost_ret (v := .agg #[.int .i64 n, .slice o R.length c]) (by simp [results, Try.results21, go_sem, a10, a11]) rfl
    ⟨o, c, rfl, (((hN.far 1 _ (by simp)).far 0 _ (by simp)).far 1 _ (by simp)).rows, Below.setCell (Below.setCell (Below.setCell hb0 (by simp; omega) _) (by simp) _) (by simp) _⟩
end Go.Proofs.Ytjbmpnbfiahdhaa
namespace Go.Proofs.Ytjbmpnbfiahdhaa
open Go.RowKit
set_option linter.unusedVariables false
set_option maxRecDepth 100000

def membersUpTo (x : Int) (k : Nat) : List Int := ((List.range k).map fun (c : Nat) => (c : Int)).filter (hasc x)
def membersF (x : Int) : List Int := if stB x then membersUpTo x 5 else []
theorem membersUpTo_succ (x : Int) (k : Nat) : membersUpTo x (k + 1) = membersUpTo x k ++ (if hasc x k then [(k : Int)] else []) := by
  unfold membersUpTo
  rw [List.range_succ, List.map_append, List.filter_append]
  simp [List.filter_cons]
theorem membersUpTo_le (x : Int) (k : Nat) : (membersUpTo x k).length ≤ k := by
  have := List.length_filter_le (hasc x) ((List.range k).map fun (c : Nat) => (c : Int))
  simpa [membersUpTo] using this
theorem members_co {x : Int} : ∀ c ∈ membersF x, Co c ∧ hasc x c = true := by
  intro c hc
  unfold membersF at hc
  split at hc
  · unfold membersUpTo at hc
    obtain ⟨h1, h2⟩ := List.mem_filter.1 hc
    obtain ⟨k, hk, rfl⟩ := List.mem_map.1 h1
    have := List.mem_range.1 hk
    exact ⟨⟨by omega, by omega⟩, h2⟩
  · cases hc
theorem members_len (x : Int) : (membersF x).length ≤ 5 := by
  unfold membersF
  split
  · exact membersUpTo_le x 5
  · simp
theorem OwnI.nil (w : World) (base : Nat) : OwnI w base (.slice none 0 0) [] := World.ownsRow_nil _ _ _ _
theorem OwnI.empty (w : World) (base : Nat) (hb : base ≤ w.heap.size) : OwnI (w.alloc (.cells #[] 3)) base (.slice (some ⟨w.heap.size, 0, none⟩) 0 0) [] :=
  World.ownsRow_lit w #[] 0 hb (Nat.zero_le _) rfl
theorem encI_snoc (L : List Int) (x : Int) : (L ++ [x]).map encI = L.map encI ++ [.int .i64 x] := by simp [encI]
theorem OwnI.snoc {w : World} {base : Nat} {v : Value} {L : List Int} {x : Int} (h : w.ownsRow base 3 1 v (L.length + 1) (L.map encI ++ [.int .i64 x])) : OwnI w base v (L ++ [x]) := by
  unfold OwnI
  rw [List.length_append, encI_snoc]
  exact h

theorem c_Members (x : Int) (w : World) :
    Calls Try.prog 134 #[.int .i64 x] w fun e w' => ∃ v, e = .returned v ∧ OwnI w' w.heap.size v (membersF x) ∧ Below w.heap.size w w' := by
  obtain ⟨i0, hi, hz0, hz1, hz2⟩ := info_parts info_int
  cases hst : stB x
  · have HM : Hid (membersF x = []) := by unfold membersF; rw [hst]; rfl
    go_enter Try.func134, Try.ntmps134
    go_wp2
    go_loopw [3, 4] (fun v i wr => i = .int .i64 0 ∧ OwnI wr w.heap.size v [] ∧ Below w.heap.size w wr) (fun _ _ _ => 0)
    case atStart => exact ⟨rfl, OwnI.empty _ _ (Nat.le_refl _), (Below.refl _ _).alloc (Nat.le_refl _) _⟩
    case round =>
      obtain ⟨rfl, hI, hb⟩ := hrel
      go_wp2_with (first | (go_at_call 125; refine Calls.mono (c_isSet _ _) ?_; rintro e w1 ⟨rfl, hbn⟩; replace hI := hI.keep hbn; replace hb := bel_to (w := w) (by first | exact hb | exact hb.alloc hb.size _ | exact (hb.alloc hb.size _).alloc (Nat.le_trans hb.size (by simp)) _ | exact hb.setCell (by simp [hb.size]) _) hbn; clear hbn))
      go_ret
      exact ⟨_, rfl, by rw [HM.out]; exact hI, hb⟩
  · have HM : Hid (membersF x = membersUpTo x 5) := by unfold membersF; rw [hst]; rfl
    have hsx : St x := by simpa [stB] using hst
    go_enter Try.func134, Try.ntmps134
    go_wp2
    go_loopw [3, 4] (fun v i wr => ∃ k : Nat, i = .int .i64 k ∧ k ≤ 5 ∧ OwnI wr w.heap.size v (membersUpTo x k) ∧ Below w.heap.size w wr) (fun _ i _ => 5 - (intOf i).toNat)
    case atStart => exact ⟨0, rfl, Nat.zero_le _, OwnI.empty _ _ (Nat.le_refl _), (Below.refl _ _).alloc (Nat.le_refl _) _⟩
    case round =>
      obtain ⟨k, rfl, hk, hI, hb⟩ := hrel
      have HS := membersUpTo_succ x k
      have hle := membersUpTo_le x k
      have HS2 : Hid (membersUpTo x (k + 1) = membersUpTo x k ++ (if hasc x k then [(k : Int)] else [])) := HS
      clear HS
      by_cases hlt : k < 5
      · have hk64 : 0 ≤ (k : Int) ∧ (k : Int) < 64 := by omega
        cases hh : hasc x k
        · go_wp2_with (first | (go_at_call 125; refine Calls.mono (c_isSet _ _) ?_; rintro e w1 ⟨rfl, hbn⟩; replace hI := hI.keep hbn; replace hb := bel_to (w := w) (by first | exact hb | exact hb.alloc hb.size _ | exact (hb.alloc hb.size _).alloc (Nat.le_trans hb.size (by simp)) _ | exact hb.setCell (by simp [hb.size]) _) hbn; clear hbn) | (go_at_call 105; refine Calls.mono (c_has _ _ hk64 _) ?_; rintro e w1 ⟨rfl, hbn⟩; replace hI := hI.keep hbn; replace hb := bel_to (w := w) (by first | exact hb | exact hb.alloc hb.size _ | exact (hb.alloc hb.size _).alloc (Nat.le_trans hb.size (by simp)) _ | exact hb.setCell (by simp [hb.size]) _) hbn; clear hbn))
          go_roundw
          case rel => exact ⟨k + 1, by go_num, by omega, by rw [HS2.out, hh]; simpa using hI, hb⟩
          case measure => simp [intOf]; omega
        · go_wp2_with (first | (go_at_call 125; refine Calls.mono (c_isSet _ _) ?_; rintro e w1 ⟨rfl, hbn⟩; replace hI := hI.keep hbn; replace hb := bel_to (w := w) (by first | exact hb | exact hb.alloc hb.size _ | exact (hb.alloc hb.size _).alloc (Nat.le_trans hb.size (by simp)) _ | exact hb.setCell (by simp [hb.size]) _) hbn; clear hbn) | (go_at_call 105; refine Calls.mono (c_has _ _ hk64 _) ?_; rintro e w1 ⟨rfl, hbn⟩; replace hI := hI.keep hbn; replace hb := bel_to (w := w) (by first | exact hb | exact hb.alloc hb.size _ | exact (hb.alloc hb.size _).alloc (Nat.le_trans hb.size (by simp)) _ | exact hb.setCell (by simp [hb.size]) _) hbn; clear hbn) | (at_builtin; refine wpList_append_own _ rfl _ _ 68 rfl w.heap.size 3 i0 (.int .i64 0) 1 8 Try.underlying68 hi hz0 hz1 hz2 rfl (by decide) _ _ _ rfl (World.ownsRow.alloc hI _) _ 1 1 [.int .i64 ((k : Int))] rfl rfl (by intro j u hj; match j, hj with | 0, hj => simp at hj; subst hj; simp [Addr.add]) (by intro u hu; simp at hu; subst hu; rfl) (by unfold maxLen; omega) (by omega) (by have := hb.size; simp; omega) ?_; intro v' w1 hown hgrow _; replace hb := (hb.alloc hb.size _).grown hgrow (by have := hb.size; simp; omega) (fun g hg => (World.ownsRow.lt hI g hg).1); replace hI := OwnI.snoc hown; clear hown hgrow))
          go_roundw
          case rel => exact ⟨k + 1, by go_num, by omega, by rw [HS2.out, hh]; exact hI, hb⟩
          case measure => simp [intOf]; omega
      · have hkk : k = 5 := by omega
        have HK : Hid (k = 5) := hkk
        clear hkk
        go_wp2_with (first | (go_at_call 125; refine Calls.mono (c_isSet _ _) ?_; rintro e w1 ⟨rfl, hbn⟩; replace hI := hI.keep hbn; replace hb := bel_to (w := w) (by first | exact hb | exact hb.alloc hb.size _ | exact (hb.alloc hb.size _).alloc (Nat.le_trans hb.size (by simp)) _ | exact hb.setCell (by simp [hb.size]) _) hbn; clear hbn))
        go_ret
        exact ⟨_, rfl, by rw [HM.out, ← HK.out]; exact hI, hb⟩
end Go.Proofs.Ytjbmpnbfiahdhaa
namespace Go.Proofs.Ytjbmpnbfiahdhaa
open Go.RowKit
set_option linter.unusedVariables false
set_option maxRecDepth 100000

/-- the block of the one is the other's, or is not there yet -/
def Fresh (w : World) (v v' : Value) : Prop := v'.ownBlock = v.ownBlock ∨ ∀ g, v'.ownBlock = some g → w.heap.size ≤ g
theorem Apart.next {w : World} {base e size n : Nat} {M v v' : Value} {xs : List Value} (hM : w.ownsRow base e size M n xs) (h : Apart M v) (hf : Fresh w v v') : Apart M v' := by
  rcases hf with h' | h'
  · unfold Apart; rw [h']; exact h
  · cases hk : M.ownBlock with
    | none => exact .inl hk
    | some k =>
      refine .inr fun e => ?_
      have a := h' k (by rw [← e, hk])
      have b := (World.ownsRow.lt hM k hk).2
      omega
theorem fresh_block {P : Program} (w : World) (base : Nat) (t ty e : TypeId) (i : TypeInfo) (z : Value) (size bytes : Nat) (ht : P.underlying t = some (.slice e)) (hi : P.info? e = some i) (hz : i.zero = some z) (hsize : i.size = size) (hby : i.bytes = bytes)
    (v : Value) (n : Nat) (xs : List Value) (hown : w.ownsRow base e size v n xs) (a : Addr) (m c : Nat) (news : List Value) (hl : news.length = m * size) (hnews : ∀ j u, news[j]? = some u → w.cell? (a.add j) = some u) (h1 : ∀ u ∈ news, u.oneCell' = true)
    (h63 : n + m ≤ maxLen) (hbytes : (n + m) * bytes ≤ 140737488355328) {v' : Value} {w' : World} (hr : (Builtin.append_ #[t, t] ty #[v, .slice (some a) m c]).run P w = .ok v' w')
    (h0 : v' = .slice none 0 0 ↔ v = .slice none 0 0 ∧ m = 0) : Fresh w v v' := by
  subst hsize hby
  have hs63 : n + m ≤ 9223372036854775807 := by simp only [maxLen] at h63; omega
  rcases hown.2 with ⟨rfl, rfl⟩ | ⟨g, k, cur, rfl, _, hg, hnk, _, hcs, _⟩
  · by_cases hm : m = 0
    · rw [h0.2 ⟨rfl, hm⟩]; exact .inl rfl
    · rw [run_append_nil (P := P) w t ty e i z ht hi hz a m c news hl hnews (by omega) (by omega) (by rw [Nat.zero_add] at hbytes; omega)] at hr
      injection hr with hr _
      subst hr
      exact .inr fun g hg => by simp [Value.ownBlock] at hg; omega
  · by_cases hroom : n + m ≤ k
    · rw [run_append_room (P := P) w t ty e i ht hi g n k cur hg a m c news hl hnews h1 hroom (by rw [hl, hcs, ← Nat.add_mul]; exact Nat.mul_le_mul_right _ hroom)] at hr
      injection hr with hr _
      subst hr
      exact .inl rfl
    · rw [run_append_grow (P := P) w t ty e i z ht hi hz ⟨g, 0, none⟩ n k xs hown.1 (hown.cells (g := g) rfl) a m c news hl hnews (by omega) (by omega) (growslice_fits (by omega) hbytes)] at hr
      injection hr with hr _
      subst hr
      exact .inr fun g hg => by simp [Value.ownBlock] at hg; omega
theorem keeps_old {P : Program} (w : World) (base : Nat) (t ty e : TypeId) (i : TypeInfo) (z : Value) (size bytes : Nat) (ht : P.underlying t = some (.slice e)) (hi : P.info? e = some i) (hz : i.zero = some z) (hsize : i.size = size) (hby : i.bytes = bytes)
    (v : Value) (n : Nat) (xs : List Value) (hown : w.ownsRow base e size v n xs) (a : Addr) (m c : Nat) (news : List Value) (hl : news.length = m * size) (hnews : ∀ j u, news[j]? = some u → w.cell? (a.add j) = some u) (h1 : ∀ u ∈ news, u.oneCell' = true)
    (h63 : n + m ≤ maxLen) (hbytes : (n + m) * bytes ≤ 140737488355328) {v' : Value} {w' : World} (hr : (Builtin.append_ #[t, t] ty #[v, .slice (some a) m c]).run P w = .ok v' w') : w'.ownsRow base e size v n xs := by
  subst hsize hby
  have hs63 : n + m ≤ 9223372036854775807 := by simp only [maxLen] at h63; omega
  have hown' := hown
  rcases hown.2 with ⟨rfl, rfl⟩ | ⟨g, k, cur, rfl, hbg, hg, hnk, hkm, hcs, htk⟩
  · exact ⟨hown.1, .inl ⟨rfl, rfl⟩⟩
  · by_cases hroom : n + m ≤ k
    · have hfit : n * i.size + news.length ≤ cur.size := by rw [hl, hcs, ← Nat.add_mul]; exact Nat.mul_le_mul_right _ hroom
      rw [run_append_room (P := P) w t ty e i ht hi g n k cur hg a m c news hl hnews h1 hroom hfit] at hr
      injection hr with _ hr
      subst hr
      refine ⟨hown.1, .inr ⟨g, k, _, rfl, hbg, setRow_heap w g cur _ e _ hg, hnk, hkm, ?_, ?_⟩⟩
      · simp only [List.size_toArray, List.length_append, List.length_take, List.length_drop, Array.length_toList]
        omega
      · have e1 : (cur.toList.take (n * i.size)).length = n * i.size := by rw [List.length_take, Array.length_toList]; omega
        rw [List.append_assoc, List.take_append_of_le_length (by omega), List.take_of_length_le (by omega)]
        exact htk
    · rw [run_append_grow (P := P) w t ty e i z ht hi hz ⟨g, 0, none⟩ n k xs hown.1 (hown.cells (g := g) rfl) a m c news hl hnews (by omega) (by omega) (growslice_fits (by omega) hbytes)] at hr
      injection hr with _ hr
      subst hr
      exact World.ownsRow.alloc (w := w.drew) hown' _
theorem wp_append_fresh {P : Program} (w : World) {o : Oper} {a : Act} {K : Act → World → Prop} {Q : Exit → Act → World → Prop} (s x : Operand) (t : TypeId)
    (ho : o.op = .call { callee := .builtin .append, args := #[s, x], argTypes := #[t, t] })
    (base : Nat) (e : TypeId) (i : TypeInfo) (z : Value) (size bytes : Nat) (ht : P.underlying t = some (.slice e)) (hi : P.info? e = some i) (hz : i.zero = some z)
    (hsize : i.size = size) (hby : i.bytes = bytes) (hzs : z.cells.size = size) (hsz : 0 < size)
    (v : Value) (n : Nat) (xs : List Value) (hs : a.eval s = v) (hown : w.ownsRow base e size v n xs)
    (ad : Addr) (m c : Nat) (news : List Value) (hx : a.eval x = .slice (some ad) m c) (hl : news.length = m * size) (hnews : ∀ j u, news[j]? = some u → w.cell? (ad.add j) = some u) (h1 : ∀ u ∈ news, u.oneCell' = true)
    (h63 : n + m ≤ maxLen) (hbytes : (n + m) * bytes ≤ 140737488355328) (hbase : base ≤ w.heap.size)
    (h : ∀ v' w', w'.ownsRow base e size v' (n + m) (xs ++ news) → w.grownBy w' v.ownBlock → Fresh w v v' → K (a.put o.dst v') w') : o.wp P a w K Q := by
  obtain ⟨v', w', hr, h2, h3, h4⟩ := run_append_own (P := P) w base t o.type e i z size bytes ht hi hz hsize hby hzs hsz v n xs hown ad m c news hl hnews h1 h63 hbytes hbase
  have hf := fresh_block (P := P) w base t o.type e i z size bytes ht hi hz hsize hby v n xs hown ad m c news hl hnews h1 h63 hbytes hr h4
  unfold Oper.wp execOp
  simp only [ho, resolve, invoke, builtin, Sem.run_bind, Sem.run_pure, Result.andThen_ok, List.map_toArray, List.map_cons, List.map_nil, hs, hx, hr]
  exact h v' w' h2 h3 hf
theorem wpList_append_fresh {P : Program} {w : World} {ops : Array Oper} {rest : List Oper} {o : Oper} {a : Act} {Q : Exit → Act → World → Prop} (hgd : o.guard = none) (s x : Operand) (t : TypeId)
    (ho : o.op = .call { callee := .builtin .append, args := #[s, x], argTypes := #[t, t] })
    (base : Nat) (e : TypeId) (i : TypeInfo) (z : Value) (size bytes : Nat) (ht : P.underlying t = some (.slice e)) (hi : P.info? e = some i) (hz : i.zero = some z)
    (hsize : i.size = size) (hby : i.bytes = bytes) (hzs : z.cells.size = size) (hsz : 0 < size)
    (v : Value) (n : Nat) (xs : List Value) (hs : a.eval s = v) (hown : w.ownsRow base e size v n xs)
    (ad : Addr) (m c : Nat) (news : List Value) (hx : a.eval x = .slice (some ad) m c) (hl : news.length = m * size) (hnews : ∀ j u, news[j]? = some u → w.cell? (ad.add j) = some u) (h1 : ∀ u ∈ news, u.oneCell' = true)
    (h63 : n + m ≤ maxLen) (hbytes : (n + m) * bytes ≤ 140737488355328) (hbase : base ≤ w.heap.size)
    (h : ∀ v' w', w'.ownsRow base e size v' (n + m) (xs ++ news) → w.grownBy w' v.ownBlock → Fresh w v v' → wpList P ops Q rest (a.put o.dst v') w') : wpList P ops Q (o :: rest) a w :=
  wpList_plain hgd fun _ hK => wp_append_fresh w s x t ho base e i z size bytes ht hi hz hsize hby hzs hsz v n xs hs hown ad m c news hx hl hnews h1 h63 hbytes hbase fun v' w' h2 h3 h4 => hK _ _ (h v' w' h2 h3 h4)
theorem step_append_held {P : Program} (w : World) {ops : Array Oper} {o : Oper} {a : Act} {K : Act → World → Prop} {Q : Exit → Act → World → Prop} {E : Prop} (hgd : o.guard = none) (s x : Operand) (t : TypeId)
    (ho : o.op = .call { callee := .builtin .append, args := #[s, x], argTypes := #[t, t] })
    (base : Nat) (e : TypeId) (i : TypeInfo) (z : Value) (size bytes : Nat) (ht : P.underlying t = some (.slice e)) (hi : P.info? e = some i) (hz : i.zero = some z)
    (hsize : i.size = size) (hby : i.bytes = bytes) (hzs : z.cells.size = size) (hsz : 0 < size)
    (v : Value) (n : Nat) (xs : List Value) (hs : a.eval s = v) (hown : w.ownsRow base e size v n xs)
    (ad : Addr) (m c : Nat) (news : List Value) (hx : a.eval x = .slice (some ad) m c) (hl : news.length = m * size) (hnews : ∀ j u, news[j]? = some u → w.cell? (ad.add j) = some u) (h1 : ∀ u ∈ news, u.oneCell' = true)
    (h63 : n + m ≤ maxLen) (hbytes : (n + m) * bytes ≤ 140737488355328) (hbase : base ≤ w.heap.size)
    (h : ∀ v' w', w'.ownsRow base e size v' (n + m) (xs ++ news) → w'.ownsRow base e size v n xs → w.grownBy w' v.ownBlock → Fresh w v v' → K (a.put o.dst v') w') :
    if Region.wanted o (yielded ops a.tmps) = true then Oper.wp P o a w K Q else E := by
  have hw : Region.wanted o (yielded ops a.tmps) = true := by simp [Region.wanted, hgd]
  rw [if_pos hw]
  obtain ⟨v', w', hr, h2, h3, h4⟩ := run_append_own (P := P) w base t o.type e i z size bytes ht hi hz hsize hby hzs hsz v n xs hown ad m c news hl hnews h1 h63 hbytes hbase
  have hf := fresh_block (P := P) w base t o.type e i z size bytes ht hi hz hsize hby v n xs hown ad m c news hl hnews h1 h63 hbytes hr h4
  have hk := keeps_old (P := P) w base t o.type e i z size bytes ht hi hz hsize hby v n xs hown ad m c news hl hnews h1 h63 hbytes hr
  unfold Oper.wp execOp
  simp only [ho, resolve, invoke, builtin, Sem.run_bind, Sem.run_pure, Result.andThen_ok, List.map_toArray, List.map_cons, List.map_nil, hs, hx, hr]
  exact h v' w' h2 hk h3 hf
/-- what lies apart from a slice that has grown by one element of one word -/
theorem OwnI.past {w w' : World} {base : Nat} {M v v' : Value} {L : List Int} {o : Obj} (h : OwnI w base M L) (hg : (w.alloc o).grownBy w' v.ownBlock) (ha : Apart M v) (hf : Fresh (w.alloc o) v v') : OwnI w' base M L ∧ Apart M v' :=
  ⟨OwnI.far (World.ownsRow.alloc h o) hg ha, Apart.next (World.ownsRow.alloc h o) ha hf⟩
theorem cell_al {w : World} {a : Addr} {v : Value} (h : w.cell? a = some v) (o : Obj) : (w.alloc o).cell? a = some v := cell_keep h ((Below.refl w.heap.size w).alloc (Nat.le_refl _) o)
theorem cell_gr {a b : World} {B base j e size n : Nat} {u v : Value} {xs : List Value} (hc : a.cell? ⟨B, j, none⟩ = some u) (hI : a.ownsRow base e size v n xs) (hB : B < base) (hg : a.grownBy b v.ownBlock) : b.cell? ⟨B, j, none⟩ = some u :=
  hg.cell hc (fun e' => by have := (World.ownsRow.lt hI B e'.symm).1; omega)
theorem OwnI.cap {w : World} {base : Nat} {v : Value} {L : List Int} (h : OwnI w base v L) : ∃ oa cap, v = .slice oa L.length cap ∧ L.length ≤ cap ∧ (oa = none → cap = 0) := by
  rcases h.2 with ⟨hv, hn⟩ | ⟨g, cap, cur, hv, _, _, hc, _⟩
  · exact ⟨none, 0, by rw [hv, hn], by omega, fun _ => rfl⟩
  · exact ⟨some ⟨g, 0, none⟩, cap, hv, hc, fun h => by cases h⟩
end Go.Proofs.Ytjbmpnbfiahdhaa
