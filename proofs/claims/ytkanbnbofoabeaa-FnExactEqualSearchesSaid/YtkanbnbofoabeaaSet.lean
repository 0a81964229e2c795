/- Plain facts on sets of at most five columns, written as the walk writes Go's operators on int. No program in sight. -/
import Derived.WalkKit
namespace Go.Proofs.Ytkanbnbofoabeaa
open Go.RowKit

/-- x &^ y == 0 -/
def ins (x y : Int) : Bool := bits BinOp.andNot .i64 x y == 0
/-- x & y == x -/
def insA (x y : Int) : Bool := bits BinOp.and .i64 x y == x
/-- x >> c & 1 == 1 -/
def hasc (x c : Int) : Bool := bits BinOp.and .i64 (x / 2 ^ c.toNat) 1 == 1
/-- x | y, x & y, x &^ y, 1 << c -/
def uni (x y : Int) : Int := bits BinOp.or .i64 x y
def cap (x y : Int) : Int := bits BinOp.and .i64 x y
def dif (x y : Int) : Int := bits BinOp.andNot .i64 x y
def one (c : Int) : Int := wrap64 (2 ^ c.toNat)
/-- a valid set, a valid column -/
def St (x : Int) : Prop := 0 ≤ x ∧ x < 32
def Co (c : Int) : Prop := 0 ≤ c ∧ c < 5
instance (x : Int) : Decidable (St x) := by unfold St; infer_instance
instance (x : Int) : Decidable (Co x) := by unfold Co; infer_instance

theorem st_nat {x : Int} (h : St x) : ∃ n : Nat, n < 32 ∧ x = n := ⟨x.toNat, by unfold St at h; omega, by unfold St at h; omega⟩
theorem co_nat {x : Int} (h : Co x) : ∃ n : Nat, n < 5 ∧ x = n := ⟨x.toNat, by unfold Co at h; omega, by unfold Co at h; omega⟩

theorem hasc_nat : ∀ n < 32, ∀ c < 5, hasc (n : Nat) (c : Nat) = Nat.testBit n c := by decide +kernel
theorem one_nat : ∀ c < 5, one (c : Nat) = (2 ^ c : Nat) := by decide +kernel
theorem uni_nat : ∀ n < 32, ∀ m < 32, uni (n : Nat) (m : Nat) = (n ||| m : Nat) := by decide +kernel
theorem cap_nat : ∀ n < 32, ∀ m < 32, cap (n : Nat) (m : Nat) = (n &&& m : Nat) := by decide +kernel
theorem dif_nat : ∀ n < 32, ∀ m < 32, dif (n : Nat) (m : Nat) = (n &&& (31 ^^^ m) : Nat) := by decide +kernel
theorem ins_nat : ∀ n < 32, ∀ m < 32, ins (n : Nat) (m : Nat) = (n &&& m == n) := by decide +kernel

theorem uni_st {x y : Int} (hx : St x) (hy : St y) : St (uni x y) := by
  obtain ⟨n, hn, rfl⟩ := st_nat hx; obtain ⟨m, hm, rfl⟩ := st_nat hy
  have h : ∀ n < 32, ∀ m < 32, (n ||| m) < 32 := by decide +kernel
  rw [uni_nat n hn m hm]; have := h n hn m hm; unfold St; omega
theorem cap_st {x y : Int} (hx : St x) (hy : St y) : St (cap x y) := by
  obtain ⟨n, hn, rfl⟩ := st_nat hx; obtain ⟨m, hm, rfl⟩ := st_nat hy
  have h : ∀ n < 32, ∀ m < 32, (n &&& m) < 32 := by decide +kernel
  rw [cap_nat n hn m hm]; have := h n hn m hm; unfold St; omega
theorem dif_st {x y : Int} (hx : St x) (hy : St y) : St (dif x y) := by
  obtain ⟨n, hn, rfl⟩ := st_nat hx; obtain ⟨m, hm, rfl⟩ := st_nat hy
  have h : ∀ n < 32, ∀ m < 32, (n &&& (31 ^^^ m)) < 32 := by decide +kernel
  rw [dif_nat n hn m hm]; have := h n hn m hm; unfold St; omega
theorem one_st {c : Int} (hc : Co c) : St (one c) := by
  obtain ⟨n, hn, rfl⟩ := co_nat hc
  have h : ∀ c < 5, 2 ^ c < 32 := by decide
  rw [one_nat n hn]; have := h n hn; unfold St; exact ⟨Int.natCast_nonneg _, by exact_mod_cast this⟩

theorem hasc_uni {x y c : Int} (hx : St x) (hy : St y) (hc : Co c) : hasc (uni x y) c = (hasc x c || hasc y c) := by
  obtain ⟨n, hn, rfl⟩ := st_nat hx; obtain ⟨m, hm, rfl⟩ := st_nat hy; obtain ⟨k, hk, rfl⟩ := co_nat hc
  have h : ∀ n < 32, ∀ m < 32, (n ||| m) < 32 := by decide +kernel
  rw [uni_nat n hn m hm, hasc_nat _ (h n hn m hm) k hk, hasc_nat n hn k hk, hasc_nat m hm k hk, Nat.testBit_or]
theorem hasc_cap {x y c : Int} (hx : St x) (hy : St y) (hc : Co c) : hasc (cap x y) c = (hasc x c && hasc y c) := by
  obtain ⟨n, hn, rfl⟩ := st_nat hx; obtain ⟨m, hm, rfl⟩ := st_nat hy; obtain ⟨k, hk, rfl⟩ := co_nat hc
  have h : ∀ n < 32, ∀ m < 32, (n &&& m) < 32 := by decide +kernel
  rw [cap_nat n hn m hm, hasc_nat _ (h n hn m hm) k hk, hasc_nat n hn k hk, hasc_nat m hm k hk, Nat.testBit_and]
theorem hasc_dif {x y c : Int} (hx : St x) (hy : St y) (hc : Co c) : hasc (dif x y) c = (hasc x c && !hasc y c) := by
  obtain ⟨n, hn, rfl⟩ := st_nat hx; obtain ⟨m, hm, rfl⟩ := st_nat hy; obtain ⟨k, hk, rfl⟩ := co_nat hc
  have h : ∀ n < 32, ∀ m < 32, ∀ k < 5, hasc (dif (n : Nat) (m : Nat)) (k : Nat) = (hasc (n : Nat) (k : Nat) && !hasc (m : Nat) (k : Nat)) := by decide +kernel
  exact h n hn m hm k hk
theorem hasc_one {c d : Int} (hc : Co c) (hd : Co d) : hasc (one c) d = (c == d) := by
  obtain ⟨n, hn, rfl⟩ := co_nat hc; obtain ⟨k, hk, rfl⟩ := co_nat hd
  have h : ∀ n < 5, ∀ k < 5, hasc (one (n : Nat)) (k : Nat) = (((n : Nat) : Int) == ((k : Nat) : Int)) := by decide +kernel
  exact h n hn k hk
theorem ins_iff {x y : Int} (hx : St x) (hy : St y) : ins x y = true ↔ ∀ c, Co c → hasc x c = true → hasc y c = true := by
  obtain ⟨n, hn, rfl⟩ := st_nat hx; obtain ⟨m, hm, rfl⟩ := st_nat hy
  have h : ∀ n < 32, ∀ m < 32, ins (n : Nat) (m : Nat) = true ↔ ∀ c < 5, hasc (n : Nat) (c : Nat) = true → hasc (m : Nat) (c : Nat) = true := by decide +kernel
  rw [h n hn m hm]
  exact ⟨fun h c hc => by obtain ⟨k, hk, rfl⟩ := co_nat hc; exact h k hk, fun h c hc => h c (by unfold Co; omega)⟩
theorem set_ext {x y : Int} (hx : St x) (hy : St y) (h : ∀ c, Co c → hasc x c = hasc y c) : x = y := by
  obtain ⟨n, hn, rfl⟩ := st_nat hx; obtain ⟨m, hm, rfl⟩ := st_nat hy
  have h' : ∀ n < 32, ∀ m < 32, (∀ c < 5, hasc (n : Nat) (c : Nat) = hasc (m : Nat) (c : Nat)) → n = m := by decide +kernel
  rw [h' n hn m hm (fun c hc => h c (by unfold Co; omega))]
theorem insA_eq {x y : Int} (hx : St x) (hy : St y) : insA x y = ins x y := by
  obtain ⟨n, hn, rfl⟩ := st_nat hx; obtain ⟨m, hm, rfl⟩ := st_nat hy
  have h : ∀ n < 32, ∀ m < 32, insA (n : Nat) (m : Nat) = ins (n : Nat) (m : Nat) := by decide +kernel
  exact h n hn m hm
theorem ins_refl {x : Int} (hx : St x) : ins x x = true := (ins_iff hx hx).2 fun _ _ h => h
theorem ins_trans {x y z : Int} (hx : St x) (hy : St y) (hz : St z) (h : ins x y = true) (h' : ins y z = true) : ins x z = true :=
  (ins_iff hx hz).2 fun c hc h1 => (ins_iff hy hz).1 h' c hc ((ins_iff hx hy).1 h c hc h1)
theorem ins_antisymm {x y : Int} (hx : St x) (hy : St y) (h : ins x y = true) (h' : ins y x = true) : x = y :=
  set_ext hx hy fun c hc => by
    have a := (ins_iff hx hy).1 h c hc
    have b := (ins_iff hy hx).1 h' c hc
    cases e : hasc x c <;> cases e' : hasc y c <;> simp_all
/-- x>>c&1 == 0 is the other answer. -/
def hasn (x c : Int) : Bool := bits BinOp.and .i64 (x / 2 ^ c.toNat) 1 == 0
theorem hasn_eq {x c : Int} (hx : St x) (hc : Co c) : hasn x c = !hasc x c := by
  obtain ⟨n, hn, rfl⟩ := st_nat hx; obtain ⟨k, hk, rfl⟩ := co_nat hc
  have h : ∀ n < 32, ∀ k < 5, hasn (n : Nat) (k : Nat) = !hasc (n : Nat) (k : Nat) := by decide +kernel
  exact h n hn k hk
theorem uni_lt {x c : Int} (hx : St x) (hc : Co c) (h : hasc x c = false) : x < uni x (one c) := by
  obtain ⟨n, hn, rfl⟩ := st_nat hx; obtain ⟨k, hk, rfl⟩ := co_nat hc
  have h' : ∀ n < 32, ∀ k < 5, hasc (n : Nat) (k : Nat) = false → ((n : Nat) : Int) < uni (n : Nat) (one (k : Nat)) := by decide +kernel
  exact h' n hn k hk h
end Go.Proofs.Ytkanbnbofoabeaa
