/- Contracts and lemmas for FnTransversals, part 6 of 8. -/
import Derived.Test.YtjbmpnbfiahdhaaGreatQFnTransversals1
import Derived.Test.YtjbmpnbfiahdhaaGreatQFnTransversals2
import Derived.Test.YtjbmpnbfiahdhaaGreatQFnTransversals3
import Derived.Test.YtjbmpnbfiahdhaaGreatQFnTransversals4
import Derived.Test.YtjbmpnbfiahdhaaGreatQFnTransversals5
import Derived.ProofKit
import Derived.OpenShut
import Derived.Lib.SmallJoins
import Derived.Deep.SlicePairs
import Derived.Deep.Matrix
import Derived.Deep.RegionHeld3
import Derived.Deep.RegionLaw
import Derived.IntWalk
namespace Go.Proofs.YtjbmpnbfiahdhaaGreat
open Go.RowKit
set_option linter.unusedVariables false
set_option maxRecDepth 100000

def sumN (Ln : Nat → Nat) (k : Nat) : Nat := ((List.range k).map Ln).sum
theorem sumN_succ (Ln : Nat → Nat) (k : Nat) : sumN Ln (k + 1) = sumN Ln k + Ln k := by unfold sumN; rw [List.range_succ]; simp
theorem sumN_one {Ln : Nat → Nat} : ∀ {n r : Nat}, r < n → Ln r ≤ sumN Ln n
  | 0, r, h => absurd h (by omega)
  | n + 1, r, h => by
    rw [sumN_succ]
    rcases Nat.lt_or_ge r n with h' | h'
    · have := sumN_one (Ln := Ln) h'; omega
    · have : r = n := by omega
      subst this; omega
theorem sumL_sumN {R : List (List Int)} {Ln : Nat → Nat} (h : ∀ r, r < R.length → (row R r).length = Ln r) : ∀ k, k ≤ R.length → sumL R k = sumN Ln k
  | 0, _ => by simp [sumL, sumN]
  | k + 1, hk => by rw [sumL_succ (by omega), sumN_succ, sumL_sumN h k (by omega), h k (by omega)]
theorem RowsIn.reads {w : World} {oa : Option Addr} {n : Nat} {Ln : Nat → Nat} (h : RowsIn w oa n Ln) (hn : n ≤ Room) (hL : ∀ r, r < n → Ln r ≤ Room) : ∃ R : List (List Int), R.length = n ∧ RowsAt w oa R ∧ ∀ r, r < n → (row R r).length = Ln r := by
  rcases Nat.eq_zero_or_pos n with h0 | h0
  · exact ⟨[], by simp [h0], ⟨by simp, fun h => absurd h (by simp)⟩, fun r hr => absurd hr (by omega)⟩
  · obtain ⟨b, off, e, hb, hr⟩ := h.rows h0
    have each : ∀ r, r < n → ∃ L : List Int, L.length = Ln r ∧ ∃ o c, w.cell? ⟨b, off + r, none⟩ = some (.slice o (Ln r) c) ∧ IntsAt w o L := fun r hrn => by
      obtain ⟨_, o, c, h1, h2⟩ := hr r hrn
      obtain ⟨L, h3, h4⟩ := h2 (hL r hrn)
      exact ⟨L, h3, o, c, h1, h4⟩
    have hch : ∃ f : Nat → List Int, ∀ r, r < n → (f r).length = Ln r ∧ ∃ o c, w.cell? ⟨b, off + r, none⟩ = some (.slice o (Ln r) c) ∧ IntsAt w o (f r) :=
      ⟨fun r => if hr : r < n then Classical.choose (each r hr) else [], fun r hr => by simp only [hr, dif_pos]; exact Classical.choose_spec (each r hr)⟩
    obtain ⟨f, hf⟩ := hch
    have er : ∀ k, k < n → row ((List.range n).map f) k = f k := fun k hk => by simp [row, List.getD, hk]
    refine ⟨(List.range n).map f, by simp, ⟨by simpa using hn, fun _ => ⟨b, off, e, hb, fun k hk => ?_⟩⟩, fun r hr => by rw [er r hr]; exact (hf r hr).1⟩
    have hk : k < n := by simpa using hk
    obtain ⟨h1, o, c, h2, h3⟩ := hf k hk
    exact ⟨o, c, by rw [er k hk, h1]; exact h2, by rw [er k hk]; exact h3⟩

theorem c_szIntSSs (oa) (n cap : Nat) (Ln : Nat → Nat) (w : World) (h : RowsIn w oa n Ln) :
    Calls Tryz.prog 173 #[.slice oa n cap, .int .i64 1048576] w fun e w' => (∃ x : Int, e = .returned (.int .i64 x) ∧ (x = -1 ∨ (0 ≤ x ∧ x ≤ 1048576 ∧ n ≤ 1048576 ∧ (n : Int) + sumN Ln n ≤ 1048576))) ∧ Below w.heap.size w w' := by
  have hn := h.len
  unfold maxLen at hn
  by_cases hbig : (1048576 : Int) < n
  · go_enter Tryz.func173, Tryz.ntmps173
    go_wp2
    go_ret
    exact ⟨⟨_, rfl, .inl rfl⟩, Below.refl _ _⟩
  go_enter Tryz.func173, Tryz.ntmps173
  go_wp2
  go_loopw [1, 5] (fun l i wr => ∃ (x : Int) (k : Nat), l = .int .i64 x ∧ i = .int .i64 k ∧ k ≤ n ∧ 0 ≤ x ∧ x ≤ 1048576 ∧ x + (n : Int) + sumN Ln k = 1048576 ∧ Below w.heap.size w wr) (fun _ i _ => n - (intOf i).toNat)
  case atStart => exact ⟨_, 0, rfl, rfl, Nat.zero_le _, by omega, by omega, by simp [sumN], Below.refl _ _⟩
  case round =>
    obtain ⟨x, k, rfl, rfl, hk, hx0, hx1, hall, hb⟩ := hrel
    have HA : Hid (x + (n : Int) + sumN Ln k = 1048576) := hall
    have HS : Hid (sumN Ln (k + 1) = sumN Ln k + Ln k) := sumN_succ Ln k
    clear hall
    by_cases hlt : k < n
    · obtain ⟨b, off, rfl, hbs, hc⟩ := h.rows (by omega)
      obtain ⟨hm, o, c, hc0, _⟩ := hc k hlt
      have hc1 := cell_keep hc0 hb
      clear hc hc0
      by_cases hle : (Ln k : Int) ≤ x
      · have e : (if (Ln k : Int) ≤ x then x - Ln k else -1) = x - Ln k := if_pos hle
        go_wp2_with fail
        refine (show Ans _ _ _ _ (.int .i64 (x - Ln k)) from e ▸ c_szIntS _ _ _ _ ⟨hx0, hx1⟩ hm _).mono ?_
        rintro en w1 ⟨rfl, hbn⟩
        replace hb := bel_to hb hbn
        clear hbn e
        go_wp2
        go_roundw
        case rel => exact ⟨x - Ln k, k + 1, rfl, by go_num, by omega, by omega, by omega, (by have h1 := HA.out; have h2 := HS.out; omega), hb⟩
        case measure => simp [intOf]; omega
      · have e : (if (Ln k : Int) ≤ x then x - Ln k else -1) = -1 := if_neg hle
        go_wp2_with fail
        refine (show Ans _ _ _ _ (.int .i64 (-1)) from e ▸ c_szIntS _ _ _ _ ⟨hx0, hx1⟩ hm _).mono ?_
        rintro en w1 ⟨rfl, hbn⟩
        replace hb := bel_to hb hbn
        clear hbn e
        go_wp2
        go_ret
        exact ⟨⟨_, rfl, .inl rfl⟩, hb⟩
    · have hkk : k = n := by omega
      have HK : Hid (k = n) := hkk
      clear hkk
      go_wp2
      go_ret
      exact ⟨⟨_, rfl, .inr ⟨hx0, hx1, by omega, (by have h1 := HA.out; have h2 := HK.out; rw [h2] at h1; omega)⟩⟩, hb⟩

theorem c_szTables (n : Int) (oa) (l cap : Nat) (Ln : Nat → Nat) (w : World) (h : RowsIn w oa l Ln) :
    Calls Tryz.prog 82 #[.agg #[.int .i64 n, .slice oa l cap], .int .i64 1048576] w fun e w' => (∃ x : Int, e = .returned (.int .i64 x) ∧ (x = -1 ∨ (0 ≤ x ∧ x ≤ 1048576 ∧ l ≤ 1048576 ∧ (l : Int) + sumN Ln l ≤ 1048576))) ∧ Below w.heap.size w w' := by
  have hb := (Below.refl w.heap.size w).alloc (Nat.le_refl _) (.cells #[.int .i64 n, .slice oa l cap] 24)
  have h2 : RowsIn (w.alloc (.cells #[.int .i64 n, .slice oa l cap] 24)) oa l Ln := ⟨h.len, fun h0 => by
    obtain ⟨b, off, e, hlt, hr⟩ := h.rows h0
    have hk := (Below.refl w.heap.size w).alloc (Nat.le_refl _) (.cells #[.int .i64 n, .slice oa l cap] 24)
    exact ⟨b, off, e, Nat.lt_of_lt_of_le hlt hk.size, fun r hrl => by
      obtain ⟨m, o, c, h1, h2⟩ := hr r hrl
      exact ⟨m, o, c, cell_keep h1 hk, fun hq => by
        obtain ⟨L, e1, e2⟩ := h2 hq
        exact ⟨L, e1, e2.keep hk⟩⟩⟩⟩
  go_enter Tryz.func82, Tryz.ntmps82
  go_wp2_with fail
  refine (c_szIntSSs _ _ _ _ _ h2).mono ?_
  rintro e w1 ⟨⟨x, rfl, hx⟩, hbn⟩
  replace hb := bel_to hb hbn
  clear hbn
  rcases hx with rfl | ⟨h0, h1, h3, h4⟩
  · go_wp2
    go_ret
    exact ⟨⟨_, rfl, .inl rfl⟩, hb⟩
  · go_wp2
    go_ret
    exact ⟨⟨_, rfl, .inr ⟨h0, h1, h3, h4⟩⟩, hb⟩
end Go.Proofs.YtjbmpnbfiahdhaaGreat
namespace Go.Proofs.YtjbmpnbfiahdhaaGreat
open Go.RowKit
set_option linter.unusedVariables false
set_option maxRecDepth 100000

def encB (b : Bool) : Value := .bool b
def bth (L : List Bool) (k : Nat) : Bool := L.getD k false
def OwnB (w : World) (base : Nat) (v : Value) (L : List Bool) : Prop := w.ownsRow base 4 1 v L.length (L.map encB)
theorem OwnB.keep {w w' : World} {base : Nat} {v : Value} {L : List Bool} (h : OwnB w base v L) (hb : Below w.heap.size w w') : OwnB w' base v L := owns_keep h hb
theorem OwnB.far {w w' : World} {base : Nat} {v v' : Value} {L : List Bool} (h : OwnB w base v L) (hg : w.grownBy w' v'.ownBlock) (ha : Apart v v') : OwnB w' base v L := World.ownsRow.kept h hg ha
theorem OwnB.based {w : World} {base base' : Nat} {v : Value} {L : List Bool} (h : OwnB w base v L) (hb : base' ≤ base) : OwnB w base' v L := owns_base h hb
theorem OwnB.past {w w' : World} {base : Nat} {M v v' : Value} {L : List Bool} {o : Obj} (h : OwnB w base M L) (hg : (w.alloc o).grownBy w' v.ownBlock) (ha : Apart M v) (hf : Fresh (w.alloc o) v v') : OwnB w' base M L ∧ Apart M v' :=
  ⟨OwnB.far (World.ownsRow.alloc h o) hg ha, Apart.next (World.ownsRow.alloc h o) ha hf⟩
theorem bth_eq {L : List Bool} {k : Nat} (hk : k < L.length) : L[k]? = some (bth L k) := by simp [bth, List.getD, hk]
theorem bth_set {L : List Bool} {j k : Nat} {x : Bool} (hj : j < L.length) : bth (L.set j x) k = if k = j then x else bth L k := by
  unfold bth List.getD
  rw [List.getElem?_set]
  by_cases h : j = k
  · subst h; simp [hj]
  · rw [if_neg h, if_neg (by omega)]
theorem OwnB.cell {w : World} {base g : Nat} {n cap : Nat} {L : List Bool} (h : OwnB w base (.slice (some ⟨g, 0, none⟩) n cap) L) (hn : n = L.length) (j : Nat) (hj : j < n) :
    w.cell? ⟨g, j, none⟩ = some (.bool (bth L j)) ∧ w.frozen? ⟨g, j, none⟩ = false := by
  subst hn
  refine ⟨?_, h.frozenAt j⟩
  rw [h.cellAt j (by omega), List.getElem?_map, bth_eq hj]; rfl
theorem OwnB.store {w : World} {base g : Nat} {n cap : Nat} {L : List Bool} (h : OwnB w base (.slice (some ⟨g, 0, none⟩) n cap) L) (hn : n = L.length) (j : Nat) (x : Bool) :
    OwnB (w.setCell ⟨g, j, none⟩ (.bool x)) base (.slice (some ⟨g, 0, none⟩) n cap) (L.set j x) := by
  subst hn
  have := (h.stored j (.bool x)).1
  unfold OwnB
  rw [List.length_set, List.map_set]
  exact this
theorem ownB_made {w : World} {base : Nat} {v : Value} {n : Nat} (h : w.ownsRow base 4 1 v n (madeCells (Value.cells (.bool false)) (n * 1)).toList) : OwnB w base v (List.replicate n false) := by
  have e : (madeCells (Value.cells (.bool false)) (n * 1)).toList = (List.replicate n false).map encB := by
    rw [Nat.mul_one]
    have : (Value.cells (.bool false)) = #[Value.bool false] := rfl
    rw [this, toList_madeCells_one, List.map_replicate]; rfl
  rw [e] at h
  unfold OwnB
  rw [List.length_replicate]
  exact h
theorem bth_replicate (n k : Nat) : bth (List.replicate n false) k = false := by
  unfold bth List.getD
  rw [List.getElem?_replicate]
  split <;> rfl
theorem info_bool : (Tryz.prog.info? 4).map (fun i => (i.zero, i.size, i.bytes)) = some (some (.bool false), 1, 1) := by kernel_rfl
theorem OwnI.single (w : World) (base : Nat) (hb : base ≤ w.heap.size) (x : Int) : OwnI (w.alloc (.cells #[.int .i64 x] 3)) base (.slice (some ⟨w.heap.size, 0, none⟩) 1 1) [x] :=
  World.ownsRow_lit w #[.int .i64 x] 1 hb (by decide) rfl

/-- A list of lists lies apart from a slice. -/
def ApartR (v : Value) (xs : List Value) (u : Value) : Prop := Apart v u ∧ ∀ y ∈ xs, Apart y u
theorem OwnRows.one {w : World} {B : Nat} {v : Value} {xs : List Value} {R : List (List Int)} (h : OwnRows w B v xs R) {y : Value} (hy : y ∈ xs) : ∃ j, j < R.length ∧ ∃ o c, y = .slice o (row R j).length c ∧ OwnI w B y (row R j) ∧ Apart v y := by
  obtain ⟨j, hj⟩ := List.mem_iff_getElem?.1 hy
  have hjl : j < R.length := by rw [← h.len]; exact (List.getElem?_eq_some_iff.1 hj).1
  obtain ⟨o, c, h1, h2, h3⟩ := h.rows j hjl
  rw [h1] at hj
  injection hj with hj
  exact ⟨j, hjl, o, c, hj.symm, by rw [← hj]; exact h2, by rw [← hj]; exact h3⟩
theorem OwnRows.fresh {w w' : World} {B size n : Nat} {e : TypeId} {u v : Value} {ys xs : List Value} {R : List (List Int)} (h : OwnRows w B v xs R) (h' : w'.ownsRow w.heap.size e size u n ys) : ApartR v xs u :=
  ⟨apart_old h.outer h', fun y hy => by obtain ⟨j, _, o, c, e, h2, _⟩ := h.one hy; exact apart_old h2 h'⟩
theorem OwnRows.past {w w' : World} {B : Nat} {v u u' : Value} {xs : List Value} {R : List (List Int)} {o : Obj} (h : OwnRows w B v xs R) (hg : (w.alloc o).grownBy w' u.ownBlock) (ha : ApartR v xs u) (hf : Fresh (w.alloc o) u u') : OwnRows w' B v xs R ∧ ApartR v xs u' := by
  have hk := h.keep ((Below.refl w.heap.size w).alloc (Nat.le_refl _) o)
  refine ⟨⟨h.len, World.ownsRow.kept hk.outer hg ha.1, fun j hj => ?_, h.pair⟩, Apart.next hk.outer ha.1 hf, fun y hy => ?_⟩
  · obtain ⟨o', c, h1, h2, h3⟩ := hk.rows j hj
    exact ⟨o', c, h1, h2.far hg (ha.2 _ (List.mem_iff_getElem?.2 ⟨j, h1⟩)), h3⟩
  · obtain ⟨j, _, o', c, e, h2, _⟩ := hk.one hy
    exact Apart.next h2 (ha.2 y hy) hf
theorem OwnRows.far {w w' : World} {B : Nat} {v u : Value} {xs : List Value} {R : List (List Int)} (h : OwnRows w B v xs R) (hg : w.grownBy w' u.ownBlock) (ha : ApartR v xs u) : OwnRows w' B v xs R := by
  refine ⟨h.len, World.ownsRow.kept h.outer hg ha.1, fun j hj => ?_, h.pair⟩
  obtain ⟨o', c, h1, h2, h3⟩ := h.rows j hj
  exact ⟨o', c, h1, h2.far hg (ha.2 _ (List.mem_iff_getElem?.2 ⟨j, h1⟩)), h3⟩
theorem row_append_lt {R S : List (List Int)} {j : Nat} (h : j < R.length) : row (R ++ S) j = row R j := by simp [row, List.getD, List.getElem?_append_left h]
theorem row_append_end {R : List (List Int)} {C : List Int} : row (R ++ [C]) R.length = C := by simp [row, List.getD]
/-- A slice of the call's own is appended. -/
theorem OwnRows.snoc {w w' : World} {B : Nat} {v v' : Value} {o : Option Addr} {c : Nat} {xs : List Value} {R : List (List Int)} {C : List Int} {ob : Obj} (h : OwnRows w B v xs R) (hC : OwnI w B (.slice o C.length c) C) (ha : ApartR v xs (.slice o C.length c))
    (hown : w'.ownsRow B 58 1 v' (xs.length + 1) (xs ++ [.slice o C.length c])) (hg : (w.alloc ob).grownBy w' v.ownBlock) (hf : Fresh (w.alloc ob) v v') : OwnRows w' B v' (xs ++ [.slice o C.length c]) (R ++ [C]) := by
  have hk := h.keep ((Below.refl w.heap.size w).alloc (Nat.le_refl _) ob)
  have hCk := hC.keep ((Below.refl w.heap.size w).alloc (Nat.le_refl _) ob)
  have hl := h.len
  refine ⟨by simp [hl], by unfold OwnV; rw [List.length_append]; exact hown, fun j hj => ?_, fun i j hij hj u u' hu hu' => ?_⟩
  · rw [List.length_append, List.length_singleton] at hj
    rcases Nat.lt_or_ge j R.length with hjl | hjl
    · rw [row_append_lt hjl]
      obtain ⟨o', c', h1, h2, h3⟩ := hk.rows j hjl
      refine ⟨o', c', by rw [List.getElem?_append_left (by omega)]; exact h1, h2.far hg h3.symm, (Apart.next h2 h3.symm hf).symm⟩
    · have e : j = R.length := by omega
      subst e
      rw [row_append_end]
      exact ⟨o, c, by rw [← hl]; simp, hCk.far hg ha.1.symm, (Apart.next hCk ha.1.symm hf).symm⟩
  · rw [List.length_append, List.length_singleton] at hj
    rw [List.getElem?_append_left (by omega)] at hu
    rcases Nat.lt_or_ge j R.length with hjl | hjl
    · rw [List.getElem?_append_left (by omega)] at hu'
      exact h.pair i j hij hjl u u' hu hu'
    · have e : j = xs.length := by omega
      subst e
      simp at hu'
      subst hu'
      exact ha.2 u (List.mem_iff_getElem?.2 ⟨i, hu⟩)
theorem OwnRows.apartFrom {w w' : World} {B size n : Nat} {e : TypeId} {u u' v : Value} {ys xs : List Value} {R : List (List Int)} (h : OwnRows w B v xs R) : True := trivial
theorem OwnRows.empty (w : World) (base : Nat) (hb : base ≤ w.heap.size) : OwnRows (w.alloc (.cells #[] 58)) base (.slice (some ⟨w.heap.size, 0, none⟩) 0 0) [] [] :=
  ⟨rfl, World.ownsRow_lit w #[] 0 hb (Nat.zero_le _) rfl, fun j hj => absurd hj (by simp), fun i j _ hj => absurd hj (by simp)⟩
theorem OwnRows.none (w : World) (base : Nat) : OwnRows w base (.slice none 0 0) [] [] :=
  ⟨rfl, World.ownsRow_nil w base _ _, fun j hj => absurd hj (by simp), fun i j _ hj => absurd hj (by simp)⟩
end Go.Proofs.YtjbmpnbfiahdhaaGreat
namespace Go.Proofs.YtjbmpnbfiahdhaaGreat
open Go.RowKit
set_option linter.unusedVariables false
set_option maxRecDepth 100000

theorem c_l2Ints (oa ob) (ca cb : Nat) (L M : List Int) (w : World) (hL : IntsAt w oa L) (hM : IntsAt w ob M) :
    Ans Tryz.prog 171 #[.slice oa L.length ca, .slice ob M.length cb] w (.bool (decide (L = M))) := by
  unfold Ans
  have hn : L.length ≤ 1073741824 := hL.len
  by_cases hlen : L.length = M.length
  · have hb0 : ((L.length : Int) != (M.length : Int)) = false := bne_false (by omega)
    have HL : Hid (L.length = M.length) := hlen
    have hlm : L.length ≤ M.length := by omega
    clear hlen
    go_enter Tryz.func171, Tryz.ntmps171
    go_wp2
    go_loopw [5] (fun i wr => ∃ k : Nat, i = .int .i64 k ∧ k ≤ L.length ∧ (∀ j, j < k → nth L j = nth M j) ∧ Below w.heap.size w wr) (fun i _ => L.length - (intOf i).toNat)
    case atStart => exact ⟨0, rfl, Nat.zero_le _, fun j hj => absurd hj (by omega), Below.refl _ _⟩
    case round =>
      obtain ⟨k, rfl, hk, hall, hb⟩ := hrel
      have HA : Hid (∀ j, j < k → nth L j = nth M j) := hall
      clear hall
      by_cases hlt : k < L.length
      · obtain ⟨b, off, rfl, hbs, hc⟩ := hL.at_ (by omega)
        obtain ⟨b', off', rfl, hbs', hc'⟩ := hM.at_ (by omega)
        have hc1 := cell_keep (hc k hlt) hb
        have hc2 := cell_keep (hc' k (by omega)) hb
        clear hc hc'
        by_cases he : nth L k = nth M k
        · have hne := bne_false he
          have HE : Hid (nth L k = nth M k) := he
          clear he
          go_wp2_with fail
          (refine wp_region_after (by kernel_rfl) (by kernel_rfl) ?_; have q_hc1 := fun (x : After _) => cell_keep hc1 x.bel; have q_hc2 := fun (x : After _) => cell_keep hc2 x.bel; (repeat (go_big_quiet_step (fail))); clear q_hc1; clear q_hc2; refine wpQuiet_nil ?_; rintro _ ⟨⟨w1, hbn⟩, rfl⟩; (try simp only [After.w]); replace hc1 := cell_keep hc1 hbn; replace hc2 := cell_keep hc2 hbn; replace hb := bel_to (w := w) (by first | exact hb | exact hb.alloc hb.size _ | exact (hb.alloc hb.size _).alloc (Nat.le_trans hb.size (by simp)) _ | exact hb.setCell (by simp [hb.size]) _) hbn; clear hbn)
          go_wp2
          go_roundw
          case rel => exact ⟨k + 1, by go_num, by omega, lt_step HA.out HE.out, hb⟩
          case measure => simp [intOf]; omega
        · have hne := bne_true he
          go_wp2_with fail
          (refine wp_region_after (by kernel_rfl) (by kernel_rfl) ?_; have q_hc1 := fun (x : After _) => cell_keep hc1 x.bel; have q_hc2 := fun (x : After _) => cell_keep hc2 x.bel; (repeat (go_big_quiet_step (fail))); clear q_hc1; clear q_hc2; refine wpQuiet_nil ?_; rintro _ ⟨⟨w1, hbn⟩, rfl⟩; (try simp only [After.w]); replace hc1 := cell_keep hc1 hbn; replace hc2 := cell_keep hc2 hbn; replace hb := bel_to (w := w) (by first | exact hb | exact hb.alloc hb.size _ | exact (hb.alloc hb.size _).alloc (Nat.le_trans hb.size (by simp)) _ | exact hb.setCell (by simp [hb.size]) _) hbn; clear hbn)
          go_wp2
          go_ret
          exact ⟨ret_bool (by symm; rw [decide_eq_false_iff_not]; intro e; exact he (by rw [e])), hb⟩
      · have hkk : k = L.length := by omega
        have HK := Hid (k = L.length)
        clear hkk
        go_wp2
        go_ret
        exact ⟨ret_bool (by symm; rw [decide_eq_true_iff]; exact list_ext HL.out fun j hj => HA.out j (by omega)), hb⟩
  · have hb0 : ((L.length : Int) != (M.length : Int)) = true := bne_true (by omega)
    go_enter Tryz.func171, Tryz.ntmps171
    go_wp2
    go_ret
    exact ⟨ret_bool (by symm; rw [decide_eq_false_iff_not]; intro e; exact hlen (by rw [e])), Below.refl _ _⟩

theorem c_sameInts (oa ob) (ca cb : Nat) (L M : List Int) (w : World) (hL : IntsAt w oa L) (hM : IntsAt w ob M) :
    Ans Tryz.prog 161 #[.slice oa L.length ca, .slice ob M.length cb] w (.bool (decide (L = M))) := by
  unfold Ans
  have hn : L.length ≤ 1073741824 := hL.len
  by_cases hlen : L.length = M.length
  · have hb0 : ((L.length : Int) != (M.length : Int)) = false := bne_false (by omega)
    have HL : Hid (L.length = M.length) := hlen
    have hlm : L.length ≤ M.length := by omega
    clear hlen
    go_enter Tryz.func161, Tryz.ntmps161
    go_wp2
    go_loopw [13] (fun i wr => ∃ k : Nat, i = .int .i64 k ∧ k ≤ L.length ∧ (∀ j, j < k → nth L j = nth M j) ∧ Below w.heap.size w wr) (fun i _ => L.length - (intOf i).toNat)
    case atStart => exact ⟨0, rfl, Nat.zero_le _, fun j hj => absurd hj (by omega), Below.refl _ _⟩
    case round =>
      obtain ⟨k, rfl, hk, hall, hb⟩ := hrel
      have HA : Hid (∀ j, j < k → nth L j = nth M j) := hall
      clear hall
      by_cases hlt : k < L.length
      · obtain ⟨b, off, rfl, hbs, hc⟩ := hL.at_ (by omega)
        obtain ⟨b', off', rfl, hbs', hc'⟩ := hM.at_ (by omega)
        have hc1 := cell_keep (hc k hlt) hb
        have hc2 := cell_keep (hc' k (by omega)) hb
        clear hc hc'
        by_cases he : nth L k = nth M k
        · have hne := bne_false he
          have HE : Hid (nth L k = nth M k) := he
          clear he
          go_wp2_with fail
          (refine wp_region_after (by kernel_rfl) (by kernel_rfl) ?_; have q_hc1 := fun (x : After _) => cell_keep hc1 x.bel; have q_hc2 := fun (x : After _) => cell_keep hc2 x.bel; (repeat (go_big_quiet_step (fail))); clear q_hc1; clear q_hc2; refine wpQuiet_nil ?_; rintro _ ⟨⟨w1, hbn⟩, rfl⟩; (try simp only [After.w]); replace hc1 := cell_keep hc1 hbn; replace hc2 := cell_keep hc2 hbn; replace hb := bel_to (w := w) (by first | exact hb | exact hb.alloc hb.size _ | exact (hb.alloc hb.size _).alloc (Nat.le_trans hb.size (by simp)) _ | exact hb.setCell (by simp [hb.size]) _) hbn; clear hbn)
          go_wp2
          go_roundw
          case rel => exact ⟨k + 1, by go_num, by omega, lt_step HA.out HE.out, hb⟩
          case measure => simp [intOf]; omega
        · have hne := bne_true he
          go_wp2_with fail
          (refine wp_region_after (by kernel_rfl) (by kernel_rfl) ?_; have q_hc1 := fun (x : After _) => cell_keep hc1 x.bel; have q_hc2 := fun (x : After _) => cell_keep hc2 x.bel; (repeat (go_big_quiet_step (fail))); clear q_hc1; clear q_hc2; refine wpQuiet_nil ?_; rintro _ ⟨⟨w1, hbn⟩, rfl⟩; (try simp only [After.w]); replace hc1 := cell_keep hc1 hbn; replace hc2 := cell_keep hc2 hbn; replace hb := bel_to (w := w) (by first | exact hb | exact hb.alloc hb.size _ | exact (hb.alloc hb.size _).alloc (Nat.le_trans hb.size (by simp)) _ | exact hb.setCell (by simp [hb.size]) _) hbn; clear hbn)
          go_wp2
          go_ret
          exact ⟨ret_bool (by symm; rw [decide_eq_false_iff_not]; intro e; exact he (by rw [e])), hb⟩
      · have hkk : k = L.length := by omega
        have HK := Hid (k = L.length)
        clear hkk
        go_wp2
        go_ret
        exact ⟨ret_bool (by symm; rw [decide_eq_true_iff]; exact list_ext HL.out fun j hj => HA.out j (by omega)), hb⟩
  · have hb0 : ((L.length : Int) != (M.length : Int)) = true := bne_true (by omega)
    go_enter Tryz.func161, Tryz.ntmps161
    go_wp2
    go_ret
    exact ⟨ret_bool (by symm; rw [decide_eq_false_iff_not]; intro e; exact hlen (by rw [e])), Below.refl _ _⟩

end Go.Proofs.YtjbmpnbfiahdhaaGreat
namespace Go.Proofs.YtjbmpnbfiahdhaaGreat
open Go.RowKit
set_option linter.unusedVariables false
set_option maxRecDepth 100000

theorem room_of {n : Nat} (h : (n : Int) ≤ 1048576) : n ≤ Room := by unfold Room; omega
theorem c_toDep (l r : Int) (w : World) : Ans Tryz.prog 175 #[.agg #[.int .i64 l, .int .i64 r]] w (.agg #[.int .i64 l, .int .i64 r]) := by
  unfold Ans
  go_enter Tryz.func175, Tryz.ntmps175
  go_wp2
  exact bodyPost_ret (v := .agg #[.int .i64 l, .int .i64 r]) (by simp [results, Tryz.results175, go_sem]) rfl ⟨rfl, (((Below.refl _ _).alloc (Nat.le_refl _) _).alloc (by simp) _).alloc (by simp; omega) _⟩
def depEqB (a b c d : Int) : Bool := decide (a = c ∧ b = d)
theorem c_eqDep (a b c d : Int) (w : World) : Ans Tryz.prog 178 #[.agg #[.int .i64 a, .int .i64 b], .agg #[.int .i64 c, .int .i64 d]] w (.bool (depEqB a b c d)) := by
  unfold Ans
  have hB : Below w.heap.size w ((w.alloc (.cells #[.int .i64 a, .int .i64 b] 46)).alloc (.cells #[.int .i64 c, .int .i64 d] 46)) := ((Below.refl _ _).alloc (Nat.le_refl _) _).alloc (by simp) _
  by_cases h1 : a = c
  · have e1 : (a != c) = false := by simp [h1]
    by_cases h2 : b = d
    · have e2 : (b != d) = false := by simp [h2]
      have HV : Hid (depEqB a b c d = true) := by simp [depEqB, h1, h2, Hid]
      clear h1 h2
      go_enter Tryz.func178, Tryz.ntmps178
      go_wp2
      go_ret
      exact ⟨ret_bool HV.out.symm, hB⟩
    · have e2 : (b != d) = true := by simp [h2]
      have HV : Hid (depEqB a b c d = false) := by simp [depEqB, h2, Hid]
      clear h1 h2
      go_enter Tryz.func178, Tryz.ntmps178
      go_wp2
      go_ret
      exact ⟨ret_bool HV.out.symm, hB⟩
  · have e1 : (a != c) = true := by simp [h1]
    have HV : Hid (depEqB a b c d = false) := by simp [depEqB, h1, Hid]
    clear h1
    go_enter Tryz.func178, Tryz.ntmps178
    go_wp2
    go_ret
    exact ⟨ret_bool HV.out.symm, hB⟩

theorem dlist_ext {L M : List (Int × Int)} (hl : L.length = M.length) (h : ∀ k, k < L.length → nl L k = nl M k ∧ nr L k = nr M k) : L = M := by
  apply List.ext_getElem?
  intro k
  by_cases hk : k < L.length
  · rw [dnth_eq hk, dnth_eq (by omega), (h k hk).1, (h k hk).2]
  · rw [List.getElem?_eq_none (by omega), List.getElem?_eq_none (by omega)]

theorem c_eqDepS (oa ob) (ca cb : Nat) (L M : List (Int × Int)) (w : World) (hL : DepsAt w oa L) (hM : DepsAt w ob M) :
    Ans Tryz.prog 91 #[.slice oa L.length ca, .slice ob M.length cb] w (.bool (decide (L = M))) := by
  unfold Ans
  have hn : L.length ≤ 1073741824 := hL.len
  by_cases hlen : L.length = M.length
  · have hb0 : ((L.length : Int) != (M.length : Int)) = false := by simp [hlen]
    have HL : Hid (L.length = M.length) := hlen
    have hlm : L.length ≤ M.length := by omega
    clear hlen
    go_enter Tryz.func91, Tryz.ntmps91
    go_wp2
    go_loopw [5] (fun i wr => ∃ k : Nat, i = .int .i64 k ∧ k ≤ L.length ∧ (∀ j, j < k → nl L j = nl M j ∧ nr L j = nr M j) ∧ Below w.heap.size w wr) (fun i _ => L.length - (intOf i).toNat)
    case atStart => exact ⟨0, rfl, Nat.zero_le _, fun j hj => absurd hj (by omega), Below.refl _ _⟩
    case round =>
      obtain ⟨k, rfl, hk, hall, hb⟩ := hrel
      have HA : Hid (∀ j, j < k → nl L j = nl M j ∧ nr L j = nr M j) := hall
      clear hall
      by_cases hlt : k < L.length
      · obtain ⟨b, off, rfl, hbs, hc⟩ := hL.at_ (by omega)
        obtain ⟨b', off', rfl, hbs', hc'⟩ := hM.at_ (by omega)
        have hc1 := cell_keep (hc k hlt).1 hb
        have hc2 := cell_keep (hc k hlt).2 hb
        have hc3 := cell_keep (hc' k (by omega)).1 hb
        have hc4 := cell_keep (hc' k (by omega)).2 hb
        clear hc hc'
        cases he : depEqB (nl L k) (nr L k) (nl M k) (nr M k)
        · go_wp2_with fail
          (refine wp_region_after (by kernel_rfl) (by kernel_rfl) ?_; have q_hc1 := fun (x : After _) => cell_keep hc1 x.bel; have q_hc2 := fun (x : After _) => cell_keep hc2 x.bel; have q_hc3 := fun (x : After _) => cell_keep hc3 x.bel; have q_hc4 := fun (x : After _) => cell_keep hc4 x.bel; (repeat (go_big_quiet_step ((first | (go_at_call 178; exact Ans.after (Ans.eqb (c_eqDep _ _ _ _ _) he)))))); clear q_hc1; clear q_hc2; clear q_hc3; clear q_hc4; refine wpQuiet_nil ?_; rintro _ ⟨⟨w1, hbn⟩, rfl⟩; (try simp only [After.w]); replace hc1 := cell_keep hc1 hbn; replace hc2 := cell_keep hc2 hbn; replace hc3 := cell_keep hc3 hbn; replace hc4 := cell_keep hc4 hbn; replace hb := bel_to (w := w) (by first | exact hb | exact hb.alloc hb.size _ | exact (hb.alloc hb.size _).alloc (Nat.le_trans hb.size (by simp)) _ | exact hb.setCell (by simp [hb.size]) _) hbn; clear hbn)
          go_wp2
          go_ret
          exact ⟨ret_bool (by symm; rw [decide_eq_false_iff_not]; intro e; subst e; simp [depEqB] at he), hb⟩
        · have HE0 : nl L k = nl M k ∧ nr L k = nr M k := by simpa [depEqB] using he
          have HE : Hid (nl L k = nl M k ∧ nr L k = nr M k) := HE0
          clear HE0
          go_wp2_with fail
          (refine wp_region_after (by kernel_rfl) (by kernel_rfl) ?_; have q_hc1 := fun (x : After _) => cell_keep hc1 x.bel; have q_hc2 := fun (x : After _) => cell_keep hc2 x.bel; have q_hc3 := fun (x : After _) => cell_keep hc3 x.bel; have q_hc4 := fun (x : After _) => cell_keep hc4 x.bel; (repeat (go_big_quiet_step ((first | (go_at_call 178; exact Ans.after (Ans.eqb (c_eqDep _ _ _ _ _) he)))))); clear q_hc1; clear q_hc2; clear q_hc3; clear q_hc4; refine wpQuiet_nil ?_; rintro _ ⟨⟨w1, hbn⟩, rfl⟩; (try simp only [After.w]); replace hc1 := cell_keep hc1 hbn; replace hc2 := cell_keep hc2 hbn; replace hc3 := cell_keep hc3 hbn; replace hc4 := cell_keep hc4 hbn; replace hb := bel_to (w := w) (by first | exact hb | exact hb.alloc hb.size _ | exact (hb.alloc hb.size _).alloc (Nat.le_trans hb.size (by simp)) _ | exact hb.setCell (by simp [hb.size]) _) hbn; clear hbn)
          go_wp2
          go_roundw
          case rel => exact ⟨k + 1, by go_num, by omega, lt_step (p := fun j => nl L j = nl M j ∧ nr L j = nr M j) HA.out HE.out, hb⟩
          case measure => simp [intOf]; omega
      · have hkk : k = L.length := by omega
        have HE : Hid (L = M) := dlist_ext HL.out fun j hj => HA.out j (by omega)
        clear hkk
        go_wp2
        go_ret
        exact ⟨ret_bool (by symm; rw [decide_eq_true_iff]; exact HE.out), hb⟩
  · have hb0 : ((L.length : Int) != (M.length : Int)) = true := by simp; omega
    go_enter Tryz.func91, Tryz.ntmps91
    go_wp2
    go_ret
    exact ⟨ret_bool (by symm; rw [decide_eq_false_iff_not]; intro e; exact hlen (by rw [e])), Below.refl _ _⟩

theorem c_toDepS (oa) (ca : Nat) (D : List (Int × Int)) (w : World) (hD : DepsAt w oa D) :
    Calls Tryz.prog 87 #[.slice oa D.length ca] w fun e w' => ∃ v, e = .returned v ∧ OwnD w' w.heap.size v D ∧ Below w.heap.size w w' := by
  have hn : D.length ≤ 1073741824 := hD.len
  obtain ⟨i0, hi, hz0, hz1, hz2⟩ := info_parts info_dep
  go_enter Tryz.func87, Tryz.ntmps87
  go_wp2_with (first | (at_make; refine wpList_make_full _ rfl _ _ 30 rfl w.heap.size 46 i0 (.agg #[.int .i64 0, .int .i64 0]) 2 Tryz.underlying30 hi hz0 hz1 .i64 .i64 _ _ D.length rfl rfl rfl rfl (by rw [hz2]; omega) (by unfold maxLen; omega) (Nat.le_refl _) ?_; intro w1 hown hgrow))
  rw [madeD] at hown
  have hI : OwnD w1 w.heap.size (.slice (some ⟨w.heap.size, 0, none⟩) D.length D.length) (List.replicate D.length (0, 0)) := by unfold OwnD; rw [List.length_replicate]; exact hown
  have hb1 : Below w.heap.size w w1 := below_grown hgrow (Nat.le_refl _) (by simp)
  clear hown hgrow hi hz0 hz1 hz2 i0
  go_loopw [4] (fun i wr => ∃ (k : Nat) (M : List (Int × Int)), i = .int .i64 k ∧ k ≤ D.length ∧ M.length = D.length ∧ (∀ j, j < k → nl M j = nl D j ∧ nr M j = nr D j) ∧
      OwnD wr w.heap.size (.slice (some ⟨w.heap.size, 0, none⟩) D.length D.length) M ∧ Below w.heap.size w wr) (fun i _ => D.length - (intOf i).toNat)
  case atStart => exact ⟨0, _, rfl, Nat.zero_le _, by simp, fun j hj => absurd hj (by omega), hI, hb1⟩
  case round =>
    clear hI hb1
    obtain ⟨k, M, rfl, hk, hM, hall, hI, hb⟩ := hrel
    have HM : Hid (M.length = D.length) := hM
    have HA : Hid (∀ j, j < k → nl M j = nl D j ∧ nr M j = nr D j) := hall
    clear hall hM
    by_cases hlt : k < D.length
    · obtain ⟨b, off, rfl, hbs, hc⟩ := hD.at_ (by omega)
      have hc1 := cell_keep (hc k hlt).1 hb
      have hc2 := cell_keep (hc k hlt).2 hb
      clear hc
      go_wp2_with fail
      refine Calls.mono (c_toDep _ _ _) ?_
      rintro e w1 ⟨rfl, hbn⟩
      replace hI := hI.keep hbn
      replace hb := bel_to (w := w) hb hbn
      obtain ⟨hg1, hg2, hg3, hg4⟩ := hI.cell HM.out.symm k hlt
      have HI2 := (show Hid _ from hI.store HM.out.symm k (nl D k) (nr D k))
      clear hc1 hc2 hbn
      go_wp2
      go_roundw
      case rel =>
        refine ⟨k + 1, M.set k (nl D k, nr D k), by go_num, by omega, by rw [List.length_set]; exact HM.out, ?_, HI2.out, (hb.setCell (Nat.le_refl _) _).setCell (Nat.le_refl _) _⟩
        intro j hj
        rw [nl_set (by have := HM.out; omega), nr_set (by have := HM.out; omega)]
        by_cases h : j = k
        · subst h; simp
        · simp only [if_neg h]; exact HA.out j (by omega)
      case measure => simp [intOf]; omega
    · have hkk : k = D.length := by omega
      have HK : Hid (k = D.length) := hkk
      clear hkk
      go_wp2
      go_ret
      have : M = D := dlist_ext HM.out fun j hj => HA.out j (by have := HM.out; have := HK.out; omega)
      subst this
      exact ⟨_, rfl, hI, hb⟩

/-- A slice of dependencies that came in. -/
def InDeps (w : World) (v : Value) : Prop := ∃ a len cap, v = .slice a len cap ∧ len ≤ maxLen ∧ (len ≤ Room → ∃ D : List (Int × Int), D.length = len ∧ DepsAt w a D)

theorem c_szDepS_ok (oa) (n cap : Nat) (left : Int) (h0 : left ≤ 1048576) (h : (n : Int) ≤ left) (w : World) :
    Ans Tryz.prog 83 #[.slice oa n cap, .int .i64 left] w (.int .i64 (left - n)) := by
  unfold Ans
  go_enter Tryz.func83, Tryz.ntmps83
  go_wp2
  go_ret
  exact ⟨rfl, Below.refl _ _⟩
theorem c_szDepS_no (oa) (n cap : Nat) (left : Int) (h0 : 0 ≤ left ∧ left ≤ 1048576) (h : left < (n : Int)) (hn : n ≤ maxLen) (w : World) :
    Ans Tryz.prog 83 #[.slice oa n cap, .int .i64 left] w (.int .i64 (-1)) := by
  unfold Ans
  unfold maxLen at hn
  go_enter Tryz.func83, Tryz.ntmps83
  go_wp2
  go_ret
  exact ⟨rfl, Below.refl _ _⟩
end Go.Proofs.YtjbmpnbfiahdhaaGreat
namespace Go.Proofs.YtjbmpnbfiahdhaaGreat
open Go.RowKit
set_option linter.unusedVariables false
set_option maxRecDepth 100000

theorem rows_ext' {A B : List (List Int)} (hl : A.length = B.length) (h : ∀ k, k < A.length → row A k = row B k) : A = B := by
  apply List.ext_getElem hl
  intro j h1 h2
  have := h j h1
  simp [row, List.getD, h1, h2] at this
  exact this

set_option maxHeartbeats 800000 in
theorem c_SameDeps (oa ob) (ca cb : Nat) (L M : List (Int × Int)) (w : World) (hL : DepsAt w oa L) (hM : DepsAt w ob M) :
    Ans Tryz.prog 102 #[.slice oa L.length ca, .slice ob M.length cb] w (.bool (decide (L = M))) := by
  unfold Ans
  have hn : L.length ≤ 1073741824 := hL.len
  by_cases hlen : L.length = M.length
  · have hb0 : ((L.length : Int) != (M.length : Int)) = false := by simp [hlen]
    have HL : Hid (L.length = M.length) := hlen
    have hlm : L.length ≤ M.length := by omega
    clear hlen
    go_enter Tryz.func102, Tryz.ntmps102
    go_wp2
    go_loopw [13] (fun i wr => ∃ k : Nat, i = .int .i64 k ∧ k ≤ L.length ∧ (∀ j, j < k → nl L j = nl M j ∧ nr L j = nr M j) ∧ Below w.heap.size w wr) (fun i _ => L.length - (intOf i).toNat)
    case atStart => exact ⟨0, rfl, Nat.zero_le _, fun j hj => absurd hj (by omega), Below.refl _ _⟩
    case round =>
      obtain ⟨k, rfl, hk, hall, hb⟩ := hrel
      have HA : Hid (∀ j, j < k → nl L j = nl M j ∧ nr L j = nr M j) := hall
      clear hall
      by_cases hlt : k < L.length
      · obtain ⟨b, off, rfl, hbs, hc⟩ := hL.at_ (by omega)
        obtain ⟨b', off', rfl, hbs', hc'⟩ := hM.at_ (by omega)
        have hc1 := cell_keep (hc k hlt).1 hb
        have hc2 := cell_keep (hc k hlt).2 hb
        have hc3 := cell_keep (hc' k (by omega)).1 hb
        have hc4 := cell_keep (hc' k (by omega)).2 hb
        have HN : Hid (L = M → nl L k = nl M k ∧ nr L k = nr M k) := fun e => by subst e; exact ⟨rfl, rfl⟩
        clear hc hc'
        generalize gh1 : nl L k = a at *
        generalize gh2 : nr L k = b at *
        generalize gh3 : nl M k = c at *
        generalize gh4 : nr M k = d at *
        have HG : Hid (nl L k = a ∧ nr L k = b ∧ nl M k = c ∧ nr M k = d) := ⟨gh1, gh2, gh3, gh4⟩
        clear gh1 gh2 gh3 gh4
        cases e1 : (a == c)
        · go_wp2_with fail
          (refine wp_region_after (by kernel_rfl) (by kernel_rfl) ?_; have q_hc1 := fun (x : After _) => cell_keep hc1 x.bel; have q_hc2 := fun (x : After _) => cell_keep hc2 x.bel; have q_hc3 := fun (x : After _) => cell_keep hc3 x.bel; have q_hc4 := fun (x : After _) => cell_keep hc4 x.bel; (repeat (go_big_quiet_step (fail))); clear q_hc1; clear q_hc2; clear q_hc3; clear q_hc4; refine wpQuiet_nil ?_; rintro _ ⟨⟨w1, hbn⟩, rfl⟩; (try simp only [After.w]); replace hc1 := cell_keep hc1 hbn; replace hc2 := cell_keep hc2 hbn; replace hc3 := cell_keep hc3 hbn; replace hc4 := cell_keep hc4 hbn; replace hb := bel_to (w := w) (by first | exact hb | exact hb.alloc hb.size _ | exact (hb.alloc hb.size _).alloc (Nat.le_trans hb.size (by simp)) _ | exact hb.setCell (by simp [hb.size]) _) hbn; clear hbn)
          go_wp2
          go_ret
          exact ⟨ret_bool (by symm; rw [decide_eq_false_iff_not]; intro e; have := (HN.out e).1; simp at e1; exact e1 this), hb⟩
        · cases e2 : (b == d)
          · go_wp2_with fail
            (refine wp_region_after (by kernel_rfl) (by kernel_rfl) ?_; have q_hc1 := fun (x : After _) => cell_keep hc1 x.bel; have q_hc2 := fun (x : After _) => cell_keep hc2 x.bel; have q_hc3 := fun (x : After _) => cell_keep hc3 x.bel; have q_hc4 := fun (x : After _) => cell_keep hc4 x.bel; (repeat (go_big_quiet_step (fail))); clear q_hc1; clear q_hc2; clear q_hc3; clear q_hc4; refine wpQuiet_nil ?_; rintro _ ⟨⟨w1, hbn⟩, rfl⟩; (try simp only [After.w]); replace hc1 := cell_keep hc1 hbn; replace hc2 := cell_keep hc2 hbn; replace hc3 := cell_keep hc3 hbn; replace hc4 := cell_keep hc4 hbn; replace hb := bel_to (w := w) (by first | exact hb | exact hb.alloc hb.size _ | exact (hb.alloc hb.size _).alloc (Nat.le_trans hb.size (by simp)) _ | exact hb.setCell (by simp [hb.size]) _) hbn; clear hbn)
            go_wp2
            go_ret
            exact ⟨ret_bool (by symm; rw [decide_eq_false_iff_not]; intro e; have := (HN.out e).2; simp at e2; exact e2 this), hb⟩
          · have HE : Hid (a = c ∧ b = d) := by show a = c ∧ b = d; simp at e1 e2; exact ⟨e1, e2⟩
            go_wp2_with fail
            (refine wp_region_after (by kernel_rfl) (by kernel_rfl) ?_; have q_hc1 := fun (x : After _) => cell_keep hc1 x.bel; have q_hc2 := fun (x : After _) => cell_keep hc2 x.bel; have q_hc3 := fun (x : After _) => cell_keep hc3 x.bel; have q_hc4 := fun (x : After _) => cell_keep hc4 x.bel; (repeat (go_big_quiet_step (fail))); clear q_hc1; clear q_hc2; clear q_hc3; clear q_hc4; refine wpQuiet_nil ?_; rintro _ ⟨⟨w1, hbn⟩, rfl⟩; (try simp only [After.w]); replace hc1 := cell_keep hc1 hbn; replace hc2 := cell_keep hc2 hbn; replace hc3 := cell_keep hc3 hbn; replace hc4 := cell_keep hc4 hbn; replace hb := bel_to (w := w) (by first | exact hb | exact hb.alloc hb.size _ | exact (hb.alloc hb.size _).alloc (Nat.le_trans hb.size (by simp)) _ | exact hb.setCell (by simp [hb.size]) _) hbn; clear hbn)
            go_wp2
            go_roundw
            case rel => exact ⟨k + 1, by go_num, by omega, lt_step (p := fun j => nl L j = nl M j ∧ nr L j = nr M j) HA.out (by obtain ⟨g1, g2, g3, g4⟩ := HG.out; rw [g1, g2, g3, g4]; exact HE.out), hb⟩
            case measure => simp [intOf]; omega
      · have hkk : k = L.length := by omega
        have HE : Hid (L = M) := dlist_ext HL.out fun j hj => HA.out j (by omega)
        clear hkk
        go_wp2
        go_ret
        exact ⟨ret_bool (by symm; rw [decide_eq_true_iff]; exact HE.out), hb⟩
  · have hb0 : ((L.length : Int) != (M.length : Int)) = true := by simp; omega
    go_enter Tryz.func102, Tryz.ntmps102
    go_wp2
    go_ret
    exact ⟨ret_bool (by symm; rw [decide_eq_false_iff_not]; intro e; exact hlen (by rw [e])), Below.refl _ _⟩

set_option maxHeartbeats 800000 in
theorem c_specSameDeps (oa ob) (ca cb : Nat) (L M : List (Int × Int)) (w : World) (hL : DepsAt w oa L) (hM : DepsAt w ob M) :
    Ans Tryz.prog 38 #[.slice oa L.length ca, .slice ob M.length cb] w (.bool (decide (L = M))) := by
  unfold Ans
  have hn : L.length ≤ 1073741824 := hL.len
  by_cases hlen : L.length = M.length
  · have hb0 : ((L.length : Int) != (M.length : Int)) = false := by simp [hlen]
    have HL : Hid (L.length = M.length) := hlen
    have hlm : L.length ≤ M.length := by omega
    clear hlen
    go_enter Tryz.func38, Tryz.ntmps38
    go_wp2
    go_loopw [5] (fun i wr => ∃ k : Nat, i = .int .i64 k ∧ k ≤ L.length ∧ (∀ j, j < k → nl L j = nl M j ∧ nr L j = nr M j) ∧ Below w.heap.size w wr) (fun i _ => L.length - (intOf i).toNat)
    case atStart => exact ⟨0, rfl, Nat.zero_le _, fun j hj => absurd hj (by omega), Below.refl _ _⟩
    case round =>
      obtain ⟨k, rfl, hk, hall, hb⟩ := hrel
      have HA : Hid (∀ j, j < k → nl L j = nl M j ∧ nr L j = nr M j) := hall
      clear hall
      by_cases hlt : k < L.length
      · obtain ⟨b, off, rfl, hbs, hc⟩ := hL.at_ (by omega)
        obtain ⟨b', off', rfl, hbs', hc'⟩ := hM.at_ (by omega)
        have hc1 := cell_keep (hc k hlt).1 hb
        have hc2 := cell_keep (hc k hlt).2 hb
        have hc3 := cell_keep (hc' k (by omega)).1 hb
        have hc4 := cell_keep (hc' k (by omega)).2 hb
        have HN : Hid (L = M → nl L k = nl M k ∧ nr L k = nr M k) := fun e => by subst e; exact ⟨rfl, rfl⟩
        clear hc hc'
        generalize gh1 : nl L k = a at *
        generalize gh2 : nr L k = b at *
        generalize gh3 : nl M k = c at *
        generalize gh4 : nr M k = d at *
        have HG : Hid (nl L k = a ∧ nr L k = b ∧ nl M k = c ∧ nr M k = d) := ⟨gh1, gh2, gh3, gh4⟩
        clear gh1 gh2 gh3 gh4
        cases e1 : (a == c)
        · go_wp2_with fail
          (refine wp_region_after (by kernel_rfl) (by kernel_rfl) ?_; have q_hc1 := fun (x : After _) => cell_keep hc1 x.bel; have q_hc2 := fun (x : After _) => cell_keep hc2 x.bel; have q_hc3 := fun (x : After _) => cell_keep hc3 x.bel; have q_hc4 := fun (x : After _) => cell_keep hc4 x.bel; (repeat (go_big_quiet_step (fail))); clear q_hc1; clear q_hc2; clear q_hc3; clear q_hc4; refine wpQuiet_nil ?_; rintro _ ⟨⟨w1, hbn⟩, rfl⟩; (try simp only [After.w]); replace hc1 := cell_keep hc1 hbn; replace hc2 := cell_keep hc2 hbn; replace hc3 := cell_keep hc3 hbn; replace hc4 := cell_keep hc4 hbn; replace hb := bel_to (w := w) (by first | exact hb | exact hb.alloc hb.size _ | exact (hb.alloc hb.size _).alloc (Nat.le_trans hb.size (by simp)) _ | exact hb.setCell (by simp [hb.size]) _) hbn; clear hbn)
          go_wp2
          go_ret
          exact ⟨ret_bool (by symm; rw [decide_eq_false_iff_not]; intro e; have := (HN.out e).1; simp at e1; exact e1 this), hb⟩
        · cases e2 : (b == d)
          · go_wp2_with fail
            (refine wp_region_after (by kernel_rfl) (by kernel_rfl) ?_; have q_hc1 := fun (x : After _) => cell_keep hc1 x.bel; have q_hc2 := fun (x : After _) => cell_keep hc2 x.bel; have q_hc3 := fun (x : After _) => cell_keep hc3 x.bel; have q_hc4 := fun (x : After _) => cell_keep hc4 x.bel; (repeat (go_big_quiet_step (fail))); clear q_hc1; clear q_hc2; clear q_hc3; clear q_hc4; refine wpQuiet_nil ?_; rintro _ ⟨⟨w1, hbn⟩, rfl⟩; (try simp only [After.w]); replace hc1 := cell_keep hc1 hbn; replace hc2 := cell_keep hc2 hbn; replace hc3 := cell_keep hc3 hbn; replace hc4 := cell_keep hc4 hbn; replace hb := bel_to (w := w) (by first | exact hb | exact hb.alloc hb.size _ | exact (hb.alloc hb.size _).alloc (Nat.le_trans hb.size (by simp)) _ | exact hb.setCell (by simp [hb.size]) _) hbn; clear hbn)
            go_wp2
            go_ret
            exact ⟨ret_bool (by symm; rw [decide_eq_false_iff_not]; intro e; have := (HN.out e).2; simp at e2; exact e2 this), hb⟩
          · have HE : Hid (a = c ∧ b = d) := by show a = c ∧ b = d; simp at e1 e2; exact ⟨e1, e2⟩
            go_wp2_with fail
            (refine wp_region_after (by kernel_rfl) (by kernel_rfl) ?_; have q_hc1 := fun (x : After _) => cell_keep hc1 x.bel; have q_hc2 := fun (x : After _) => cell_keep hc2 x.bel; have q_hc3 := fun (x : After _) => cell_keep hc3 x.bel; have q_hc4 := fun (x : After _) => cell_keep hc4 x.bel; (repeat (go_big_quiet_step (fail))); clear q_hc1; clear q_hc2; clear q_hc3; clear q_hc4; refine wpQuiet_nil ?_; rintro _ ⟨⟨w1, hbn⟩, rfl⟩; (try simp only [After.w]); replace hc1 := cell_keep hc1 hbn; replace hc2 := cell_keep hc2 hbn; replace hc3 := cell_keep hc3 hbn; replace hc4 := cell_keep hc4 hbn; replace hb := bel_to (w := w) (by first | exact hb | exact hb.alloc hb.size _ | exact (hb.alloc hb.size _).alloc (Nat.le_trans hb.size (by simp)) _ | exact hb.setCell (by simp [hb.size]) _) hbn; clear hbn)
            go_wp2
            go_roundw
            case rel => exact ⟨k + 1, by go_num, by omega, lt_step (p := fun j => nl L j = nl M j ∧ nr L j = nr M j) HA.out (by obtain ⟨g1, g2, g3, g4⟩ := HG.out; rw [g1, g2, g3, g4]; exact HE.out), hb⟩
            case measure => simp [intOf]; omega
      · have hkk : k = L.length := by omega
        have HE : Hid (L = M) := dlist_ext HL.out fun j hj => HA.out j (by omega)
        clear hkk
        go_wp2
        go_ret
        exact ⟨ret_bool (by symm; rw [decide_eq_true_iff]; exact HE.out), hb⟩
  · have hb0 : ((L.length : Int) != (M.length : Int)) = true := by simp; omega
    go_enter Tryz.func38, Tryz.ntmps38
    go_wp2
    go_ret
    exact ⟨ret_bool (by symm; rw [decide_eq_false_iff_not]; intro e; exact hlen (by rw [e])), Below.refl _ _⟩

def eqTabF (n k : Int) (A B : List (List Int)) : Bool := (n == k) && decide (A = B)
set_option maxHeartbeats 800000 in
theorem c_specEqualTables (n k : Int) (oa ob) (ca cb : Nat) (A B : List (List Int)) (w : World) (hA : RowsAt w oa A) (hB : RowsAt w ob B) :
    Ans Tryz.prog 100 #[.agg #[.int .i64 n, .slice oa A.length ca], .agg #[.int .i64 k, .slice ob B.length cb]] w (.bool (eqTabF n k A B)) := by
  unfold Ans
  have hn : A.length ≤ 1073741824 := hA.len
  have hb := bel2 w (.cells #[.int .i64 n, .slice oa A.length ca] 29) (.cells #[.int .i64 k, .slice ob B.length cb] 29)
  have a0 := two_a w #[.int .i64 n, .slice oa A.length ca] 29 #[.int .i64 k, .slice ob B.length cb] 29 0 _ rfl
  have a1 := two_a w #[.int .i64 n, .slice oa A.length ca] 29 #[.int .i64 k, .slice ob B.length cb] 29 1 _ rfl
  have b0 := two_b w #[.int .i64 n, .slice oa A.length ca] 29 #[.int .i64 k, .slice ob B.length cb] 29 0 _ rfl
  have b1 := two_b w #[.int .i64 n, .slice oa A.length ca] 29 #[.int .i64 k, .slice ob B.length cb] 29 1 _ rfl
  cases h : (n == k)
  · have h' : (n != k) = true := by simp at h ⊢; exact h
    have HM : Hid (eqTabF n k A B = false) := by show eqTabF n k A B = false; unfold eqTabF; rw [h]; rfl
    go_enter Tryz.func100, Tryz.ntmps100
    go_wp2
    go_ret
    exact ⟨ret_bool HM.out.symm, hb⟩
  have h' : (n != k) = false := by simp at h ⊢; exact h
  have HM : Hid (eqTabF n k A B = decide (A = B)) := by show eqTabF n k A B = _; unfold eqTabF; rw [h]; rfl
  by_cases hlen : A.length = B.length
  · have hb0 : ((A.length : Int) != (B.length : Int)) = false := by simp [hlen]
    have HL : Hid (A.length = B.length) := hlen
    have hlm : A.length ≤ B.length := by omega
    clear hlen
    go_enter Tryz.func100, Tryz.ntmps100
    go_wp2
    go_loopw [5] (fun i wr => ∃ k' : Nat, i = .int .i64 k' ∧ k' ≤ A.length ∧ (∀ j, j < k' → row A j = row B j) ∧ wr.cell? ⟨w.heap.size, 1, none⟩ = some (.slice oa A.length ca) ∧ wr.cell? ⟨w.heap.size + 1, 1, none⟩ = some (.slice ob B.length cb) ∧ Below w.heap.size w wr) (fun i _ => A.length - (intOf i).toNat)
    case atStart => exact ⟨0, rfl, Nat.zero_le _, fun j hj => absurd hj (by omega), a1, b1, hb⟩
    case round =>
      clear a0 a1 b0 b1 hb
      obtain ⟨k', rfl, hk, hall, a1, b1, hb⟩ := hrel
      have HA : Hid (∀ j, j < k' → row A j = row B j) := hall
      clear hall
      by_cases hlt : k' < A.length
      · obtain ⟨b, off, rfl, hbs, hc⟩ := hA.at_ (by omega)
        obtain ⟨b', off', rfl, hbs', hc'⟩ := hB.at_ (by omega)
        obtain ⟨o1, c1, h1, r1⟩ := hc k' hlt
        obtain ⟨o2, c2, h2, r2⟩ := hc' k' (by omega)
        have hc1 := cell_keep h1 hb
        have hc2 := cell_keep h2 hb
        have hx1 := fun (x : After wr) => (r1.keep hb).keep x.bel
        have hx2 := fun (x : After wr) => (r2.keep hb).keep x.bel
        have HN : Hid (A = B → row A k' = row B k') := fun e => by rw [e]
        clear hc hc' h1 h2
        cases he : decide (row A k' = row B k')
        · go_wp2_with fail
          (refine wp_region_after (by kernel_rfl) (by kernel_rfl) ?_; have q_a1 := fun (x : After _) => cell_keep a1 x.bel; have q_b1 := fun (x : After _) => cell_keep b1 x.bel; have q_hc1 := fun (x : After _) => cell_keep hc1 x.bel; have q_hc2 := fun (x : After _) => cell_keep hc2 x.bel; (repeat (go_big_quiet_step ((first | (go_at_call 171; exact Ans.after (Ans.eqb (c_l2Ints _ _ _ _ _ _ _ (hx1 _) (hx2 _)) he)))))); clear q_a1; clear q_b1; clear q_hc1; clear q_hc2; refine wpQuiet_nil ?_; rintro _ ⟨⟨w1, hbn⟩, rfl⟩; (try simp only [After.w]); replace a1 := cell_keep a1 hbn; replace b1 := cell_keep b1 hbn; replace hc1 := cell_keep hc1 hbn; replace hc2 := cell_keep hc2 hbn; replace hb := bel_to (w := w) (by first | exact hb | exact hb.alloc hb.size _ | exact (hb.alloc hb.size _).alloc (Nat.le_trans hb.size (by simp)) _ | exact hb.setCell (by simp [hb.size]) _) hbn; clear hbn)
          go_wp2
          go_ret
          exact ⟨ret_bool (by rw [HM.out]; symm; rw [decide_eq_false_iff_not]; intro e; exact (of_decide_eq_false he) (HN.out e)), hb⟩
        · have HE : Hid (row A k' = row B k') := (show row A k' = row B k' from of_decide_eq_true he)
          go_wp2_with fail
          (refine wp_region_after (by kernel_rfl) (by kernel_rfl) ?_; have q_a1 := fun (x : After _) => cell_keep a1 x.bel; have q_b1 := fun (x : After _) => cell_keep b1 x.bel; have q_hc1 := fun (x : After _) => cell_keep hc1 x.bel; have q_hc2 := fun (x : After _) => cell_keep hc2 x.bel; (repeat (go_big_quiet_step ((first | (go_at_call 171; exact Ans.after (Ans.eqb (c_l2Ints _ _ _ _ _ _ _ (hx1 _) (hx2 _)) he)))))); clear q_a1; clear q_b1; clear q_hc1; clear q_hc2; refine wpQuiet_nil ?_; rintro _ ⟨⟨w1, hbn⟩, rfl⟩; (try simp only [After.w]); replace a1 := cell_keep a1 hbn; replace b1 := cell_keep b1 hbn; replace hc1 := cell_keep hc1 hbn; replace hc2 := cell_keep hc2 hbn; replace hb := bel_to (w := w) (by first | exact hb | exact hb.alloc hb.size _ | exact (hb.alloc hb.size _).alloc (Nat.le_trans hb.size (by simp)) _ | exact hb.setCell (by simp [hb.size]) _) hbn; clear hbn)
          go_wp2
          go_roundw
          case rel => exact ⟨k' + 1, by go_num, by omega, lt_step (p := fun j => row A j = row B j) HA.out HE.out, a1, b1, hb⟩
          case measure => simp [intOf]; omega
      · have HE : Hid (A = B) := rows_ext' HL.out fun j hj => HA.out j (by omega)
        go_wp2
        go_ret
        exact ⟨ret_bool (by rw [HM.out]; symm; rw [decide_eq_true_iff]; exact HE.out), hb⟩
  · have hb0 : ((A.length : Int) != (B.length : Int)) = true := by simp; omega
    go_enter Tryz.func100, Tryz.ntmps100
    go_wp2
    go_ret
    exact ⟨ret_bool (by rw [HM.out]; symm; rw [decide_eq_false_iff_not]; intro e; exact hlen (by rw [e])), hb⟩
end Go.Proofs.YtjbmpnbfiahdhaaGreat
namespace Go.Proofs.YtjbmpnbfiahdhaaGreat
open Go.RowKit
set_option linter.unusedVariables false
set_option maxRecDepth 100000

structure Sr where
  n : Int
  R : List (List Int)
  m : Int
  a : Int
  F : List (Int × Int)
  t : Int
def eqSrF (A B : Sr) : Bool := (((eqTabF A.n B.n A.R B.R && (A.m == B.m)) && (A.a == B.a)) && decide (A.F = B.F)) && (A.t == B.t)
set_option maxHeartbeats 800000 in
theorem c_specEqualSearches (A B : Sr) (oa ob fa fb) (ca cb fca fcb : Nat) (w : World) (hA : RowsAt w oa A.R) (hB : RowsAt w ob B.R) (hC : DepsAt w fa A.F) (hD : DepsAt w fb B.F) :
    Ans Tryz.prog 18 #[.agg #[.int .i64 A.n, .slice oa A.R.length ca, .int .i64 A.m, .int .i64 A.a, .slice fa A.F.length fca, .int .i64 A.t], .agg #[.int .i64 B.n, .slice ob B.R.length cb, .int .i64 B.m, .int .i64 B.a, .slice fb B.F.length fcb, .int .i64 B.t]] w (.bool (eqSrF A B)) := by
  unfold Ans
  have hb := bel2 w (.cells #[.int .i64 A.n, .slice oa A.R.length ca, .int .i64 A.m, .int .i64 A.a, .slice fa A.F.length fca, .int .i64 A.t] 32) (.cells #[.int .i64 B.n, .slice ob B.R.length cb, .int .i64 B.m, .int .i64 B.a, .slice fb B.F.length fcb, .int .i64 B.t] 32)
  have x0 := two_a w #[.int .i64 A.n, .slice oa A.R.length ca, .int .i64 A.m, .int .i64 A.a, .slice fa A.F.length fca, .int .i64 A.t] 32 #[.int .i64 B.n, .slice ob B.R.length cb, .int .i64 B.m, .int .i64 B.a, .slice fb B.F.length fcb, .int .i64 B.t] 32 0 _ rfl
  have x1 := two_a w #[.int .i64 A.n, .slice oa A.R.length ca, .int .i64 A.m, .int .i64 A.a, .slice fa A.F.length fca, .int .i64 A.t] 32 #[.int .i64 B.n, .slice ob B.R.length cb, .int .i64 B.m, .int .i64 B.a, .slice fb B.F.length fcb, .int .i64 B.t] 32 1 _ rfl
  have x2 := two_a w #[.int .i64 A.n, .slice oa A.R.length ca, .int .i64 A.m, .int .i64 A.a, .slice fa A.F.length fca, .int .i64 A.t] 32 #[.int .i64 B.n, .slice ob B.R.length cb, .int .i64 B.m, .int .i64 B.a, .slice fb B.F.length fcb, .int .i64 B.t] 32 2 _ rfl
  have x3 := two_a w #[.int .i64 A.n, .slice oa A.R.length ca, .int .i64 A.m, .int .i64 A.a, .slice fa A.F.length fca, .int .i64 A.t] 32 #[.int .i64 B.n, .slice ob B.R.length cb, .int .i64 B.m, .int .i64 B.a, .slice fb B.F.length fcb, .int .i64 B.t] 32 3 _ rfl
  have x4 := two_a w #[.int .i64 A.n, .slice oa A.R.length ca, .int .i64 A.m, .int .i64 A.a, .slice fa A.F.length fca, .int .i64 A.t] 32 #[.int .i64 B.n, .slice ob B.R.length cb, .int .i64 B.m, .int .i64 B.a, .slice fb B.F.length fcb, .int .i64 B.t] 32 4 _ rfl
  have x5 := two_a w #[.int .i64 A.n, .slice oa A.R.length ca, .int .i64 A.m, .int .i64 A.a, .slice fa A.F.length fca, .int .i64 A.t] 32 #[.int .i64 B.n, .slice ob B.R.length cb, .int .i64 B.m, .int .i64 B.a, .slice fb B.F.length fcb, .int .i64 B.t] 32 5 _ rfl
  have y0 := two_b w #[.int .i64 A.n, .slice oa A.R.length ca, .int .i64 A.m, .int .i64 A.a, .slice fa A.F.length fca, .int .i64 A.t] 32 #[.int .i64 B.n, .slice ob B.R.length cb, .int .i64 B.m, .int .i64 B.a, .slice fb B.F.length fcb, .int .i64 B.t] 32 0 _ rfl
  have y1 := two_b w #[.int .i64 A.n, .slice oa A.R.length ca, .int .i64 A.m, .int .i64 A.a, .slice fa A.F.length fca, .int .i64 A.t] 32 #[.int .i64 B.n, .slice ob B.R.length cb, .int .i64 B.m, .int .i64 B.a, .slice fb B.F.length fcb, .int .i64 B.t] 32 1 _ rfl
  have y2 := two_b w #[.int .i64 A.n, .slice oa A.R.length ca, .int .i64 A.m, .int .i64 A.a, .slice fa A.F.length fca, .int .i64 A.t] 32 #[.int .i64 B.n, .slice ob B.R.length cb, .int .i64 B.m, .int .i64 B.a, .slice fb B.F.length fcb, .int .i64 B.t] 32 2 _ rfl
  have y3 := two_b w #[.int .i64 A.n, .slice oa A.R.length ca, .int .i64 A.m, .int .i64 A.a, .slice fa A.F.length fca, .int .i64 A.t] 32 #[.int .i64 B.n, .slice ob B.R.length cb, .int .i64 B.m, .int .i64 B.a, .slice fb B.F.length fcb, .int .i64 B.t] 32 3 _ rfl
  have y4 := two_b w #[.int .i64 A.n, .slice oa A.R.length ca, .int .i64 A.m, .int .i64 A.a, .slice fa A.F.length fca, .int .i64 A.t] 32 #[.int .i64 B.n, .slice ob B.R.length cb, .int .i64 B.m, .int .i64 B.a, .slice fb B.F.length fcb, .int .i64 B.t] 32 4 _ rfl
  have y5 := two_b w #[.int .i64 A.n, .slice oa A.R.length ca, .int .i64 A.m, .int .i64 A.a, .slice fa A.F.length fca, .int .i64 A.t] 32 #[.int .i64 B.n, .slice ob B.R.length cb, .int .i64 B.m, .int .i64 B.a, .slice fb B.F.length fcb, .int .i64 B.t] 32 5 _ rfl
  cases h1 : (eqTabF A.n B.n A.R B.R)
  case false =>
    have HM : Hid (eqSrF A B = false) := by show eqSrF A B = false; unfold eqSrF; rw [h1]; simp
    go_enter Tryz.func18, Tryz.ntmps18
    go_wp2_with (first | (go_at_call 100; refine Calls.mono (Ans.eqb (c_specEqualTables _ _ _ _ _ _ _ _ _ (hA.keep hb) (hB.keep hb)) h1) ?_; rintro e w1 ⟨rfl, hbn⟩; replace x0 := cell_keep x0 hbn; replace x1 := cell_keep x1 hbn; replace x2 := cell_keep x2 hbn; replace x3 := cell_keep x3 hbn; replace x4 := cell_keep x4 hbn; replace x5 := cell_keep x5 hbn; replace y0 := cell_keep y0 hbn; replace y1 := cell_keep y1 hbn; replace y2 := cell_keep y2 hbn; replace y3 := cell_keep y3 hbn; replace y4 := cell_keep y4 hbn; replace y5 := cell_keep y5 hbn; replace hb := bel_to (w := w) (by first | exact hb | exact hb.alloc hb.size _ | exact (hb.alloc hb.size _).alloc (Nat.le_trans hb.size (by simp)) _ | exact hb.setCell (by simp [hb.size]) _) hbn; clear hbn) | fail)
    go_ret
    exact ⟨ret_bool HM.out.symm, hb⟩
  cases h2 : (A.m == B.m)
  case false =>
    have HM : Hid (eqSrF A B = false) := by show eqSrF A B = false; unfold eqSrF; rw [h2]; simp
    go_enter Tryz.func18, Tryz.ntmps18
    go_wp2_with (first | (go_at_call 100; refine Calls.mono (Ans.eqb (c_specEqualTables _ _ _ _ _ _ _ _ _ (hA.keep hb) (hB.keep hb)) h1) ?_; rintro e w1 ⟨rfl, hbn⟩; replace x0 := cell_keep x0 hbn; replace x1 := cell_keep x1 hbn; replace x2 := cell_keep x2 hbn; replace x3 := cell_keep x3 hbn; replace x4 := cell_keep x4 hbn; replace x5 := cell_keep x5 hbn; replace y0 := cell_keep y0 hbn; replace y1 := cell_keep y1 hbn; replace y2 := cell_keep y2 hbn; replace y3 := cell_keep y3 hbn; replace y4 := cell_keep y4 hbn; replace y5 := cell_keep y5 hbn; replace hb := bel_to (w := w) (by first | exact hb | exact hb.alloc hb.size _ | exact (hb.alloc hb.size _).alloc (Nat.le_trans hb.size (by simp)) _ | exact hb.setCell (by simp [hb.size]) _) hbn; clear hbn) | fail)
    go_ret
    exact ⟨ret_bool HM.out.symm, hb⟩
  cases h3 : (A.a == B.a)
  case false =>
    have HM : Hid (eqSrF A B = false) := by show eqSrF A B = false; unfold eqSrF; rw [h3]; simp
    go_enter Tryz.func18, Tryz.ntmps18
    go_wp2_with (first | (go_at_call 100; refine Calls.mono (Ans.eqb (c_specEqualTables _ _ _ _ _ _ _ _ _ (hA.keep hb) (hB.keep hb)) h1) ?_; rintro e w1 ⟨rfl, hbn⟩; replace x0 := cell_keep x0 hbn; replace x1 := cell_keep x1 hbn; replace x2 := cell_keep x2 hbn; replace x3 := cell_keep x3 hbn; replace x4 := cell_keep x4 hbn; replace x5 := cell_keep x5 hbn; replace y0 := cell_keep y0 hbn; replace y1 := cell_keep y1 hbn; replace y2 := cell_keep y2 hbn; replace y3 := cell_keep y3 hbn; replace y4 := cell_keep y4 hbn; replace y5 := cell_keep y5 hbn; replace hb := bel_to (w := w) (by first | exact hb | exact hb.alloc hb.size _ | exact (hb.alloc hb.size _).alloc (Nat.le_trans hb.size (by simp)) _ | exact hb.setCell (by simp [hb.size]) _) hbn; clear hbn) | fail)
    go_ret
    exact ⟨ret_bool HM.out.symm, hb⟩
  cases h4 : (decide (A.F = B.F))
  case false =>
    have HM : Hid (eqSrF A B = false) := by show eqSrF A B = false; unfold eqSrF; rw [h4]; simp
    go_enter Tryz.func18, Tryz.ntmps18
    go_wp2_with (first | (go_at_call 100; refine Calls.mono (Ans.eqb (c_specEqualTables _ _ _ _ _ _ _ _ _ (hA.keep hb) (hB.keep hb)) h1) ?_; rintro e w1 ⟨rfl, hbn⟩; replace x0 := cell_keep x0 hbn; replace x1 := cell_keep x1 hbn; replace x2 := cell_keep x2 hbn; replace x3 := cell_keep x3 hbn; replace x4 := cell_keep x4 hbn; replace x5 := cell_keep x5 hbn; replace y0 := cell_keep y0 hbn; replace y1 := cell_keep y1 hbn; replace y2 := cell_keep y2 hbn; replace y3 := cell_keep y3 hbn; replace y4 := cell_keep y4 hbn; replace y5 := cell_keep y5 hbn; replace hb := bel_to (w := w) (by first | exact hb | exact hb.alloc hb.size _ | exact (hb.alloc hb.size _).alloc (Nat.le_trans hb.size (by simp)) _ | exact hb.setCell (by simp [hb.size]) _) hbn; clear hbn) | (go_at_call 38; refine Calls.mono (Ans.eqb (c_specSameDeps _ _ _ _ _ _ _ (hC.keep hb) (hD.keep hb)) h4) ?_; rintro e w1 ⟨rfl, hbn⟩; replace x0 := cell_keep x0 hbn; replace x1 := cell_keep x1 hbn; replace x2 := cell_keep x2 hbn; replace x3 := cell_keep x3 hbn; replace x4 := cell_keep x4 hbn; replace x5 := cell_keep x5 hbn; replace y0 := cell_keep y0 hbn; replace y1 := cell_keep y1 hbn; replace y2 := cell_keep y2 hbn; replace y3 := cell_keep y3 hbn; replace y4 := cell_keep y4 hbn; replace y5 := cell_keep y5 hbn; replace hb := bel_to (w := w) (by first | exact hb | exact hb.alloc hb.size _ | exact (hb.alloc hb.size _).alloc (Nat.le_trans hb.size (by simp)) _ | exact hb.setCell (by simp [hb.size]) _) hbn; clear hbn) | fail)
    go_ret
    exact ⟨ret_bool HM.out.symm, hb⟩
  cases h5 : (A.t == B.t)
  case false =>
    have HM : Hid (eqSrF A B = false) := by show eqSrF A B = false; unfold eqSrF; rw [h5]; simp
    go_enter Tryz.func18, Tryz.ntmps18
    go_wp2_with (first | (go_at_call 100; refine Calls.mono (Ans.eqb (c_specEqualTables _ _ _ _ _ _ _ _ _ (hA.keep hb) (hB.keep hb)) h1) ?_; rintro e w1 ⟨rfl, hbn⟩; replace x0 := cell_keep x0 hbn; replace x1 := cell_keep x1 hbn; replace x2 := cell_keep x2 hbn; replace x3 := cell_keep x3 hbn; replace x4 := cell_keep x4 hbn; replace x5 := cell_keep x5 hbn; replace y0 := cell_keep y0 hbn; replace y1 := cell_keep y1 hbn; replace y2 := cell_keep y2 hbn; replace y3 := cell_keep y3 hbn; replace y4 := cell_keep y4 hbn; replace y5 := cell_keep y5 hbn; replace hb := bel_to (w := w) (by first | exact hb | exact hb.alloc hb.size _ | exact (hb.alloc hb.size _).alloc (Nat.le_trans hb.size (by simp)) _ | exact hb.setCell (by simp [hb.size]) _) hbn; clear hbn) | (go_at_call 38; refine Calls.mono (Ans.eqb (c_specSameDeps _ _ _ _ _ _ _ (hC.keep hb) (hD.keep hb)) h4) ?_; rintro e w1 ⟨rfl, hbn⟩; replace x0 := cell_keep x0 hbn; replace x1 := cell_keep x1 hbn; replace x2 := cell_keep x2 hbn; replace x3 := cell_keep x3 hbn; replace x4 := cell_keep x4 hbn; replace x5 := cell_keep x5 hbn; replace y0 := cell_keep y0 hbn; replace y1 := cell_keep y1 hbn; replace y2 := cell_keep y2 hbn; replace y3 := cell_keep y3 hbn; replace y4 := cell_keep y4 hbn; replace y5 := cell_keep y5 hbn; replace hb := bel_to (w := w) (by first | exact hb | exact hb.alloc hb.size _ | exact (hb.alloc hb.size _).alloc (Nat.le_trans hb.size (by simp)) _ | exact hb.setCell (by simp [hb.size]) _) hbn; clear hbn) | fail)
    go_ret
    exact ⟨ret_bool HM.out.symm, hb⟩
  have HM : Hid (eqSrF A B = true) := by show eqSrF A B = true; unfold eqSrF; rw [h1, h2, h3, h4, h5]; rfl
  go_enter Tryz.func18, Tryz.ntmps18
  go_wp2_with (first | (go_at_call 100; refine Calls.mono (Ans.eqb (c_specEqualTables _ _ _ _ _ _ _ _ _ (hA.keep hb) (hB.keep hb)) h1) ?_; rintro e w1 ⟨rfl, hbn⟩; replace x0 := cell_keep x0 hbn; replace x1 := cell_keep x1 hbn; replace x2 := cell_keep x2 hbn; replace x3 := cell_keep x3 hbn; replace x4 := cell_keep x4 hbn; replace x5 := cell_keep x5 hbn; replace y0 := cell_keep y0 hbn; replace y1 := cell_keep y1 hbn; replace y2 := cell_keep y2 hbn; replace y3 := cell_keep y3 hbn; replace y4 := cell_keep y4 hbn; replace y5 := cell_keep y5 hbn; replace hb := bel_to (w := w) (by first | exact hb | exact hb.alloc hb.size _ | exact (hb.alloc hb.size _).alloc (Nat.le_trans hb.size (by simp)) _ | exact hb.setCell (by simp [hb.size]) _) hbn; clear hbn) | (go_at_call 38; refine Calls.mono (Ans.eqb (c_specSameDeps _ _ _ _ _ _ _ (hC.keep hb) (hD.keep hb)) h4) ?_; rintro e w1 ⟨rfl, hbn⟩; replace x0 := cell_keep x0 hbn; replace x1 := cell_keep x1 hbn; replace x2 := cell_keep x2 hbn; replace x3 := cell_keep x3 hbn; replace x4 := cell_keep x4 hbn; replace x5 := cell_keep x5 hbn; replace y0 := cell_keep y0 hbn; replace y1 := cell_keep y1 hbn; replace y2 := cell_keep y2 hbn; replace y3 := cell_keep y3 hbn; replace y4 := cell_keep y4 hbn; replace y5 := cell_keep y5 hbn; replace hb := bel_to (w := w) (by first | exact hb | exact hb.alloc hb.size _ | exact (hb.alloc hb.size _).alloc (Nat.le_trans hb.size (by simp)) _ | exact hb.setCell (by simp [hb.size]) _) hbn; clear hbn) | fail)
  go_ret
  exact ⟨ret_bool HM.out.symm, hb⟩
end Go.Proofs.YtjbmpnbfiahdhaaGreat
namespace Go.Proofs.YtjbmpnbfiahdhaaGreat
open Go.ChangeShapes Go.WideShapes Go.ChangeAt Go.RowKit
set_option linter.unusedVariables false
set_option maxRecDepth 100000

theorem open_ints {H : Type} {enc : TypeId × Value → H} {W : World} {base : Nat} {held : Bool} {v : Value} {d : DataW H} {ps : List MemPlace} (hok : Value.okWide Tryz.prog W .any base 58 v)
    (h : DataW.Trod enc Tryz.prog W 0 (fun _ => true) held 58 v d ps) : InInts W v := by
  obtain ⟨a0, len0, cap0, rfl⟩ := okWide_slice Tryz.underlying58 hok
  obtain ⟨fuel, hf⟩ := h
  rcases Go.ChangeShapes.open_ints Tryz.underlying58 Tryz.underlying3 (by kernel_rfl) hf with ⟨hcs, _⟩ | ⟨x, l, c, zs, hcs, _, hl, hm, hz, _, hcell, hwz⟩
  · simp [Value.cells] at hcs
    obtain ⟨rfl, rfl, rfl⟩ := hcs
    exact ⟨_, _, _, [], rfl, .inl ⟨rfl, rfl, rfl, rfl⟩⟩
  · simp [Value.cells] at hcs
    obtain ⟨rfl, rfl, rfl⟩ := hcs
    exact ⟨_, _, _, zs, rfl, .inr ⟨_, rfl, hl, hm, by simpa using hz, hcell, hwz⟩⟩
end Go.Proofs.YtjbmpnbfiahdhaaGreat
namespace Go.Proofs.YtjbmpnbfiahdhaaGreat
open Go.ChangeShapes Go.WideShapes Go.ChangeAt Go.RowKit Go.Joins
set_option linter.unusedVariables false
set_option maxRecDepth 100000

theorem add_at (b off j : Nat) : (⟨b, off, none⟩ : Addr).add j = ⟨b, off + j, none⟩ := by unfold Addr.add; split <;> simp_all

theorem open_deps {H : Type} {enc : TypeId × Value → H} {W : World} {base : Nat} {held : Bool} {v : Value} {d : DataW H} {ps : List MemPlace} (hok : Value.okWide Tryz.prog W .any base 25 v)
    (h : DataW.Trod enc Tryz.prog W 0 (fun _ => true) held 25 v d ps) : InDeps W v := by
  obtain ⟨a0, len0, cap0, rfl⟩ := okWide_slice Tryz.underlying25 hok
  obtain ⟨fuel, hf⟩ := h
  rcases Go.Deep.open_slice_pairs Tryz.underlying25 Tryz.underlying134 (by kernel_rfl) rfl rfl (by kernel_rfl) (by kernel_rfl) hf with ⟨hcs, _⟩ | ⟨x, l, c, m, n, V0, V1, D0, D1, P0, P1, hcs, _, hl, hm, hmm, _, hcell⟩
  · simp [Value.cells] at hcs
    obtain ⟨rfl, rfl, rfl⟩ := hcs
    exact ⟨_, _, _, rfl, Nat.zero_le _, fun _ => ⟨[], rfl, by simp, fun h => absurd h (by simp)⟩⟩
  · simp [Value.cells] at hcs
    obtain ⟨rfl, rfl, rfl⟩ := hcs
    simp only [if_true] at hmm
    subst hmm
    refine ⟨_, _, _, rfl, Nat.le_trans hl hm, fun hr => ?_⟩
    have each : ∀ i, i < len0 → ∃ q : Int × Int, V0 i = .int .i64 q.1 ∧ V1 i = .int .i64 q.2 := by
      intro i hi
      obtain ⟨_, _, t0, t1⟩ := hcell i (by omega)
      obtain ⟨z0, e0, _⟩ := DataW.trod_int Tryz.underlying3 t0
      obtain ⟨z1, e1, _⟩ := DataW.trod_int Tryz.underlying3 t1
      simp at e0 e1
      exact ⟨(z0, z1), e0, e1⟩
    obtain ⟨q, hq⟩ := Go.Deep.choose_lt each
    refine ⟨(List.range len0).map q, by simp, by simpa using hr, fun h0 => ?_⟩
    simp only [List.length_map, List.length_range] at h0
    obtain ⟨b, off, spot⟩ := x
    have hc := (hcell 0 (by omega)).1
    have hspot : spot = none := by simpa [Addr.add] using World.cell?_spot hc
    subst hspot
    refine ⟨b, off, rfl, World.block_lt_of_cell? W ⟨b, off, none⟩ (by simpa [Addr.add] using hc), fun k hk => ?_⟩
    simp only [List.length_map, List.length_range] at hk
    obtain ⟨c0, c1, _⟩ := hcell k (by omega)
    rw [add_at] at c0 c1
    obtain ⟨e0, e1⟩ := hq k hk
    rw [e0] at c0
    rw [e1] at c1
    rw [Nat.add_assoc, c0, c1]
    have e : ((List.range len0).map q).getD k (0, 0) = q k := by simp [List.getD, hk]
    unfold nl nr
    rw [e]; exact ⟨rfl, rfl⟩

theorem open_dep {H : Type} {enc : TypeId × Value → H} {W : World} {base : Nat} {held : Bool} {v : Value} {d : DataW H} {ps : List MemPlace} (hok : Value.okWide Tryz.prog W .any base 134 v)
    (h : DataW.Trod enc Tryz.prog W 0 (fun _ => true) held 134 v d ps) : ∃ l r : Int, v = .agg #[.int .i64 l, .int .i64 r] ∧ (Lit.int .i64 l).wf = true ∧ (Lit.int .i64 r).wf = true := by
  obtain ⟨c0, c1, y0, y1, m, rfl, rfl, rfl, hy0, hy1⟩ := open_agg2 Tryz.underlying134 (by kernel_rfl) (by kernel_rfl) hok h
  obtain ⟨z0, e0, _, w0⟩ := DataW.trod_int Tryz.underlying3 hy0
  obtain ⟨z1, e1, _, w1⟩ := DataW.trod_int Tryz.underlying3 hy1
  simp at e0 e1
  subst e0 e1
  exact ⟨_, _, rfl, w0, w1⟩
end Go.Proofs.YtjbmpnbfiahdhaaGreat
namespace Go.Proofs.YtjbmpnbfiahdhaaGreat
open Go.ChangeShapes Go.WideShapes Go.ChangeAt Go.RowKit Go.Joins
set_option linter.unusedVariables false
set_option maxRecDepth 100000

def InTab (w : World) (v : Value) : Prop := ∃ (n : Int) (oa : Option Addr) (l c : Nat) (Ln : Nat → Nat), v = .agg #[.int .i64 n, .slice oa l c] ∧ RowsIn w oa l Ln
theorem open_table {H : Type} {enc : TypeId × Value → H} {W : World} {base : Nat} {held : Bool} {v : Value} {d : DataW H} {ps : List MemPlace} (hok : Value.okWide Tryz.prog W .any base 24 v)
    (h : DataW.Trod enc Tryz.prog W 0 (fun _ => true) held 24 v d ps) : InTab W v := by
  obtain ⟨c0, c1, y0, y1, m, rfl, rfl, rfl, hy0, hy1⟩ := open_agg2 Tryz.underlying24 (by kernel_rfl) (by kernel_rfl) hok h
  obtain ⟨z0, e0, _, w0⟩ := DataW.trod_int Tryz.underlying3 hy0
  simp at e0
  subst e0
  rcases Go.Deep.open_int_rows Tryz.underlying22 Tryz.underlying58 Tryz.underlying3 (by kernel_rfl) (by kernel_rfl) hy1 with ⟨hcs, _⟩ | ⟨a, len, cap, A, L, C, Z, hcs, _, hl, hm, _, hr⟩
  · simp at hcs
    subst hcs
    exact ⟨_, _, _, _, fun _ => 0, rfl, Nat.zero_le _, fun h => absurd h (by simp)⟩
  · simp at hcs
    subst hcs
    refine ⟨_, _, _, _, L, rfl, Nat.le_trans hl hm, fun h0 => ?_⟩
    obtain ⟨b, off, spot⟩ := a
    have hc := (hr 0 (by omega)).1
    have hspot : spot = none := by simpa [Addr.add] using World.cell?_spot hc
    subst hspot
    refine ⟨b, off, rfl, World.block_lt_of_cell? W ⟨b, off, none⟩ (by simpa [Addr.add] using hc), fun r hrl => ?_⟩
    obtain ⟨h1, h2, h3, h4, h5, h6, h7⟩ := hr r (by omega)
    rw [add_at] at h1
    refine ⟨Nat.le_trans h2 h3, A r, C r, h1, fun hroom => ?_⟩
    refine IsRow.ints (cap := C r) (zs := Z r) ?_ hroom
    cases hA : A r with
    | none =>
      have hz : C r = 0 := h6 hA
      refine .inl ⟨rfl, by omega, hz, List.eq_nil_of_length_eq_zero (by omega)⟩
    | some a' =>
      obtain ⟨_, hcell⟩ := h7 a' hA
      exact .inr ⟨a', rfl, h2, h3, h4, fun i hi => hcell i (by omega), h5⟩
theorem RowsIn.keep {w w' : World} {oa : Option Addr} {l : Nat} {Ln : Nat → Nat} (h : RowsIn w oa l Ln) (hk : Below w.heap.size w w') : RowsIn w' oa l Ln :=
  ⟨h.len, fun h0 => by
    obtain ⟨b, off, e, hlt, hr⟩ := h.rows h0
    exact ⟨b, off, e, Nat.lt_of_lt_of_le hlt hk.size, fun r hrl => by
      obtain ⟨m, o, c, h1, h2⟩ := hr r hrl
      exact ⟨m, o, c, cell_keep h1 hk, fun hq => by
        obtain ⟨L, e1, e2⟩ := h2 hq
        exact ⟨L, e1, e2.keep hk⟩⟩⟩⟩
end Go.Proofs.YtjbmpnbfiahdhaaGreat
namespace Go.Proofs.YtjbmpnbfiahdhaaGreat
open Go.ChangeShapes Go.WideShapes Go.ChangeAt Go.RowKit Go.Joins
set_option linter.unusedVariables false
set_option maxRecDepth 100000

theorem deps_of_trod {H : Type} {enc : TypeId × Value → H} {W : World} {held : Bool} {fuel : Nat} {v : Value} {x : DataW H × List MemPlace} (hf : DataW.trod enc Tryz.prog W 0 (fun _ => true) held fuel 25 [v] = some x) : InDeps W v := by
  rcases Go.Deep.open_slice_pairs Tryz.underlying25 Tryz.underlying134 (by kernel_rfl) rfl rfl (by kernel_rfl) (by kernel_rfl) hf with ⟨hcs, _⟩ | ⟨x, l, c, m, n, V0, V1, D0, D1, P0, P1, hcs, _, hl, hm, hmm, _, hcell⟩
  · simp at hcs
    subst hcs
    exact ⟨_, _, _, rfl, Nat.zero_le _, fun _ => ⟨[], rfl, by simp, fun h => absurd h (by simp)⟩⟩
  · simp at hcs
    subst hcs
    simp only [if_true] at hmm
    subst hmm
    refine ⟨_, _, _, rfl, Nat.le_trans hl hm, fun hr => ?_⟩
    have each : ∀ i, i < l → ∃ q : Int × Int, V0 i = .int .i64 q.1 ∧ V1 i = .int .i64 q.2 := by
      intro i hi
      obtain ⟨_, _, t0, t1⟩ := hcell i (by omega)
      obtain ⟨z0, e0, _⟩ := DataW.trod_int Tryz.underlying3 t0
      obtain ⟨z1, e1, _⟩ := DataW.trod_int Tryz.underlying3 t1
      simp at e0 e1
      exact ⟨(z0, z1), e0, e1⟩
    obtain ⟨q, hq⟩ := Go.Deep.choose_lt each
    refine ⟨(List.range l).map q, by simp, by simpa using hr, fun h0 => ?_⟩
    simp only [List.length_map, List.length_range] at h0
    obtain ⟨b, off, spot⟩ := x
    have hc := (hcell 0 (by omega)).1
    have hspot : spot = none := by simpa [Addr.add] using World.cell?_spot hc
    subst hspot
    refine ⟨b, off, rfl, World.block_lt_of_cell? W ⟨b, off, none⟩ (by simpa [Addr.add] using hc), fun k hk => ?_⟩
    simp only [List.length_map, List.length_range] at hk
    obtain ⟨c0, c1, _⟩ := hcell k (by omega)
    rw [add_at] at c0 c1
    obtain ⟨e0, e1⟩ := hq k hk
    rw [e0] at c0
    rw [e1] at c1
    rw [Nat.add_assoc, c0, c1]
    have e : ((List.range l).map q).getD k (0, 0) = q k := by simp [List.getD, hk]
    unfold nl nr
    rw [e]; exact ⟨rfl, rfl⟩
theorem rows_of_trod {H : Type} {enc : TypeId × Value → H} {W : World} {held : Bool} {fuel : Nat} {v : Value} {x : DataW H × List MemPlace} (hy1 : DataW.trod enc Tryz.prog W 0 (fun _ => true) held fuel 22 [v] = some x) : ∃ (oa : Option Addr) (l c : Nat) (Ln : Nat → Nat), v = .slice oa l c ∧ RowsIn W oa l Ln := by
  rcases Go.Deep.open_int_rows Tryz.underlying22 Tryz.underlying58 Tryz.underlying3 (by kernel_rfl) (by kernel_rfl) hy1 with ⟨hcs, _⟩ | ⟨a, len, cap, A, L, C, Z, hcs, _, hl, hm, _, hr⟩
  · simp at hcs
    subst hcs
    exact ⟨_, _, _, fun _ => 0, rfl, Nat.zero_le _, fun h => absurd h (by simp)⟩
  · simp at hcs
    subst hcs
    refine ⟨_, _, _, L, rfl, Nat.le_trans hl hm, fun h0 => ?_⟩
    obtain ⟨b, off, spot⟩ := a
    have hc := (hr 0 (by omega)).1
    have hspot : spot = none := by simpa [Addr.add] using World.cell?_spot hc
    subst hspot
    refine ⟨b, off, rfl, World.block_lt_of_cell? W ⟨b, off, none⟩ (by simpa [Addr.add] using hc), fun r hrl => ?_⟩
    obtain ⟨h1, h2, h3, h4, h5, h6, h7⟩ := hr r (by omega)
    rw [add_at] at h1
    refine ⟨Nat.le_trans h2 h3, A r, C r, h1, fun hroom => ?_⟩
    refine IsRow.ints (cap := C r) (zs := Z r) ?_ hroom
    cases hA : A r with
    | none =>
      have hz : C r = 0 := h6 hA
      refine .inl ⟨rfl, by omega, hz, List.eq_nil_of_length_eq_zero (by omega)⟩
    | some a' =>
      obtain ⟨_, hcell⟩ := h7 a' hA
      exact .inr ⟨a', rfl, h2, h3, h4, fun i hi => hcell i (by omega), h5⟩
def InSr (w : World) (v : Value) : Prop := ∃ (n m a t : Int) (oa : Option Addr) (l c : Nat) (Ln : Nat → Nat) (vD : Value), v = .agg #[.int .i64 n, .slice oa l c, .int .i64 m, .int .i64 a, vD, .int .i64 t] ∧ RowsIn w oa l Ln ∧ InDeps w vD
  ∧ (Lit.int .i64 m).wf = true ∧ (Lit.int .i64 a).wf = true ∧ (Lit.int .i64 t).wf = true
theorem open_search {H : Type} {enc : TypeId × Value → H} {W : World} {base : Nat} {held : Bool} {v : Value} {d : DataW H} {ps : List MemPlace} (hok : Value.okWide Tryz.prog W .any base 27 v)
    (h : DataW.Trod enc Tryz.prog W 0 (fun _ => true) held 27 v d ps) : InSr W v := by
  obtain ⟨cs, rfl, hsz⟩ := okWide_struct Tryz.underlying27 hok
  obtain ⟨l⟩ := cs
  have hC : Tryz.prog.cellsOf 27 = 6 := by kernel_rfl
  match l, hsz.trans hC with
  | [v0, v1, v2, v3, v4, v5], _ =>
    obtain ⟨fuel, hf⟩ := h
    obtain ⟨xs, n, _, hx, _, hlen, hg⟩ := DataW.trod_struct Tryz.underlying27 hf
    match xs, hlen with
    | [y0, y1, y2, y3, y4], _ =>
      have g0 := hg 0 _ rfl
      have g1 := hg 1 _ rfl
      have g2 := hg 2 _ rfl
      have g3 := hg 3 _ rfl
      have g4 := hg 4 _ rfl
      have ci : Tryz.prog.cellsOf 3 = 1 := by kernel_rfl
      have ct : Tryz.prog.cellsOf 24 = 2 := by kernel_rfl
      have cd : Tryz.prog.cellsOf 25 = 1 := by kernel_rfl
      simp [Value.cells, ci, ct, cd] at g0 g1 g2 g3 g4
      obtain ⟨zs, k, _, _, _, hzl, hz⟩ := DataW.trod_struct Tryz.underlying24 g0
      match zs, hzl with
      | [z0, z1], _ =>
        have q0 := hz 0 _ rfl
        have q1 := hz 1 _ rfl
        have cr : Tryz.prog.cellsOf 22 = 1 := by kernel_rfl
        simp [ci, cr] at q0 q1
        obtain ⟨i0, e0, _, w0⟩ := DataW.trod_int Tryz.underlying3 q0
        obtain ⟨i1, e1, _, w1⟩ := DataW.trod_int Tryz.underlying3 g1
        obtain ⟨i2, e2, _, w2⟩ := DataW.trod_int Tryz.underlying3 g2
        obtain ⟨i4, e4, _, w4⟩ := DataW.trod_int Tryz.underlying3 g4
        simp at e0 e1 e2 e4
        subst e0 e1 e2 e4
        obtain ⟨oa, lr, cr, Ln, rfl, hR⟩ := rows_of_trod q1
        exact ⟨_, _, _, _, _, _, _, _, _, rfl, hR, deps_of_trod g3, w1, w2, w4⟩
end Go.Proofs.YtjbmpnbfiahdhaaGreat
namespace Go.Proofs.YtjbmpnbfiahdhaaGreat
open Go.RowKit
set_option linter.unusedVariables false
set_option maxRecDepth 100000

theorem c_szIntSSg (oa) (n cap : Nat) (Ln : Nat → Nat) (left : Int) (hl0 : 0 ≤ left) (hl1 : left ≤ 1048576) (w : World) (h : RowsIn w oa n Ln) :
    Calls Tryz.prog 173 #[.slice oa n cap, .int .i64 left] w fun e w' => (∃ x : Int, e = .returned (.int .i64 x) ∧ (x = -1 ∨ (0 ≤ x ∧ x ≤ left ∧ (n : Int) + sumN Ln n + x = left))) ∧ Below w.heap.size w w' := by
  have hn := h.len
  unfold maxLen at hn
  by_cases hbig : left < n
  · go_enter Tryz.func173, Tryz.ntmps173
    go_wp2
    go_ret
    exact ⟨⟨_, rfl, .inl rfl⟩, Below.refl _ _⟩
  go_enter Tryz.func173, Tryz.ntmps173
  go_wp2
  go_loopw [1, 5] (fun l i wr => ∃ (x : Int) (k : Nat), l = .int .i64 x ∧ i = .int .i64 k ∧ k ≤ n ∧ 0 ≤ x ∧ x ≤ left ∧ x + (n : Int) + sumN Ln k = left ∧ Below w.heap.size w wr) (fun _ i _ => n - (intOf i).toNat)
  case atStart => exact ⟨_, 0, rfl, rfl, Nat.zero_le _, by omega, by omega, by simp [sumN], Below.refl _ _⟩
  case round =>
    obtain ⟨x, k, rfl, rfl, hk, hx0, hx1, hall, hb⟩ := hrel
    have HA : Hid (x + (n : Int) + sumN Ln k = left) := hall
    have HS : Hid (sumN Ln (k + 1) = sumN Ln k + Ln k) := sumN_succ Ln k
    clear hall
    have hx2 : x ≤ 1048576 := by omega
    by_cases hlt : k < n
    · obtain ⟨b, off, rfl, hbs, hc⟩ := h.rows (by omega)
      obtain ⟨hm, o, c, hc0, _⟩ := hc k hlt
      have hc1 := cell_keep hc0 hb
      clear hc hc0
      by_cases hle : (Ln k : Int) ≤ x
      · have e : (if (Ln k : Int) ≤ x then x - Ln k else -1) = x - Ln k := if_pos hle
        go_wp2_with fail
        refine (show Ans _ _ _ _ (.int .i64 (x - Ln k)) from e ▸ c_szIntS _ _ _ _ ⟨hx0, hx2⟩ hm _).mono ?_
        rintro en w1 ⟨rfl, hbn⟩
        replace hb := bel_to hb hbn
        clear hbn e
        go_wp2
        go_roundw
        case rel => exact ⟨x - Ln k, k + 1, rfl, by go_num, by omega, by omega, by omega, (by have h1 := HA.out; have h2 := HS.out; omega), hb⟩
        case measure => simp [intOf]; omega
      · have e : (if (Ln k : Int) ≤ x then x - Ln k else -1) = -1 := if_neg hle
        go_wp2_with fail
        refine (show Ans _ _ _ _ (.int .i64 (-1)) from e ▸ c_szIntS _ _ _ _ ⟨hx0, hx2⟩ hm _).mono ?_
        rintro en w1 ⟨rfl, hbn⟩
        replace hb := bel_to hb hbn
        clear hbn e
        go_wp2
        go_ret
        exact ⟨⟨_, rfl, .inl rfl⟩, hb⟩
    · have hkk : k = n := by omega
      have HK : Hid (k = n) := hkk
      clear hkk
      go_wp2
      go_ret
      exact ⟨⟨_, rfl, .inr ⟨hx0, by omega, (by have h1 := HA.out; have h2 := HK.out; rw [h2] at h1; omega)⟩⟩, hb⟩
theorem c_szTableg (n : Int) (oa) (l cap : Nat) (Ln : Nat → Nat) (left : Int) (hl0 : 0 ≤ left) (hl1 : left ≤ 1048576) (w : World) (h : RowsIn w oa l Ln) :
    Calls Tryz.prog 82 #[.agg #[.int .i64 n, .slice oa l cap], .int .i64 left] w fun e w' => (∃ x : Int, e = .returned (.int .i64 x) ∧ (x = -1 ∨ (0 ≤ x ∧ x ≤ left ∧ (l : Int) + sumN Ln l + x = left))) ∧ Below w.heap.size w w' := by
  have hb := (Below.refl w.heap.size w).alloc (Nat.le_refl _) (.cells #[.int .i64 n, .slice oa l cap] 24)
  go_enter Tryz.func82, Tryz.ntmps82
  go_wp2_with fail
  refine (c_szIntSSg _ _ _ _ left hl0 hl1 _ (h.keep hb)).mono ?_
  rintro e w1 ⟨⟨x, rfl, hx⟩, hbn⟩
  replace hb := bel_to hb hbn
  clear hbn
  rcases hx with rfl | ⟨h0, h1, h3⟩
  · go_wp2
    go_ret
    exact ⟨⟨_, rfl, .inl rfl⟩, hb⟩
  · have H3 : Hid ((l : Int) + sumN Ln l + x = left) := h3
    clear h3
    go_wp2
    go_ret
    exact ⟨⟨_, rfl, .inr ⟨h0, h1, H3.out⟩⟩, hb⟩
theorem c_szSearch (n m a t : Int) (oa) (l cap : Nat) (Ln : Nat → Nat) (od) (ld cd : Nat) (left : Int) (hl0 : 0 ≤ left) (hl1 : left ≤ 1048576) (w : World) (h : RowsIn w oa l Ln) (hmD : ld ≤ maxLen) :
    Calls Tryz.prog 8 #[.agg #[.int .i64 n, .slice oa l cap, .int .i64 m, .int .i64 a, .slice od ld cd, .int .i64 t], .int .i64 left] w fun e w' => (∃ x : Int, e = .returned (.int .i64 x) ∧ (x = -1 ∨ (0 ≤ x ∧ x ≤ left ∧ (l : Int) + sumN Ln l ≤ left ∧ (ld : Int) ≤ left))) ∧ Below w.heap.size w w' := by
  have hb := (Below.refl w.heap.size w).alloc (Nat.le_refl _) (.cells #[.int .i64 n, .slice oa l cap, .int .i64 m, .int .i64 a, .slice od ld cd, .int .i64 t] 27)
  have b4 := box_at w #[.int .i64 n, .slice oa l cap, .int .i64 m, .int .i64 a, .slice od ld cd, .int .i64 t] 27 4 _ rfl
  go_enter Tryz.func8, Tryz.ntmps8
  go_wp2_with fail
  refine (c_szTableg n _ _ _ _ left hl0 hl1 _ (h.keep hb)).mono ?_
  rintro e w1 ⟨⟨x, rfl, hx⟩, hbn⟩
  replace b4 := cell_keep b4 hbn
  replace hb := bel_to hb hbn
  clear hbn
  rcases hx with rfl | ⟨h0, h1, h3⟩
  · go_wp2
    go_ret
    exact ⟨⟨_, rfl, .inl rfl⟩, hb⟩
  · have H3 : Hid ((l : Int) + sumN Ln l + x = left) := h3
    clear h3
    have hx1 : x ≤ 1048576 := by omega
    by_cases big : x < (ld : Int)
    · go_wp2_with fail
      refine Calls.mono (c_szDepS_no _ _ _ _ ⟨h0, hx1⟩ big hmD _) ?_
      rintro e w2 ⟨rfl, hbn⟩
      replace hb := bel_to hb hbn
      clear hbn
      go_wp2
      go_ret
      exact ⟨⟨_, rfl, .inl rfl⟩, hb⟩
    · have hy0 : 0 ≤ x - (ld : Int) := by omega
      go_wp2_with fail
      refine Calls.mono (c_szDepS_ok _ _ _ _ hx1 (by omega) _) ?_
      rintro e w2 ⟨rfl, hbn⟩
      replace hb := bel_to hb hbn
      clear hbn
      go_wp2
      go_ret
      exact ⟨⟨_, rfl, .inr ⟨by omega, by omega, by have := H3.out; omega, by have := H3.out; omega⟩⟩, hb⟩
theorem c_eqSearch (A B : Sr) (oa ob fa fb) (ca cb fca fcb : Nat) (w : World) (hA : RowsAt w oa A.R) (hB : RowsAt w ob B.R) (hC : DepsAt w fa A.F) (hD : DepsAt w fb B.F) (e : A = B) :
    Ans Tryz.prog 12 #[.agg #[.int .i64 A.n, .slice oa A.R.length ca, .int .i64 A.m, .int .i64 A.a, .slice fa A.F.length fca, .int .i64 A.t], .agg #[.int .i64 B.n, .slice ob B.R.length cb, .int .i64 B.m, .int .i64 B.a, .slice fb B.F.length fcb, .int .i64 B.t]] w (.bool true) := by
  subst e
  unfold Ans
  have hb := bel2 w (.cells #[.int .i64 A.n, .slice oa A.R.length ca, .int .i64 A.m, .int .i64 A.a, .slice fa A.F.length fca, .int .i64 A.t] 32) (.cells #[.int .i64 A.n, .slice ob A.R.length cb, .int .i64 A.m, .int .i64 A.a, .slice fb A.F.length fcb, .int .i64 A.t] 32)
  have x2 := two_a w #[.int .i64 A.n, .slice oa A.R.length ca, .int .i64 A.m, .int .i64 A.a, .slice fa A.F.length fca, .int .i64 A.t] 32 #[.int .i64 A.n, .slice ob A.R.length cb, .int .i64 A.m, .int .i64 A.a, .slice fb A.F.length fcb, .int .i64 A.t] 32 2 _ rfl
  have x3 := two_a w #[.int .i64 A.n, .slice oa A.R.length ca, .int .i64 A.m, .int .i64 A.a, .slice fa A.F.length fca, .int .i64 A.t] 32 #[.int .i64 A.n, .slice ob A.R.length cb, .int .i64 A.m, .int .i64 A.a, .slice fb A.F.length fcb, .int .i64 A.t] 32 3 _ rfl
  have x4 := two_a w #[.int .i64 A.n, .slice oa A.R.length ca, .int .i64 A.m, .int .i64 A.a, .slice fa A.F.length fca, .int .i64 A.t] 32 #[.int .i64 A.n, .slice ob A.R.length cb, .int .i64 A.m, .int .i64 A.a, .slice fb A.F.length fcb, .int .i64 A.t] 32 4 _ rfl
  have x5 := two_a w #[.int .i64 A.n, .slice oa A.R.length ca, .int .i64 A.m, .int .i64 A.a, .slice fa A.F.length fca, .int .i64 A.t] 32 #[.int .i64 A.n, .slice ob A.R.length cb, .int .i64 A.m, .int .i64 A.a, .slice fb A.F.length fcb, .int .i64 A.t] 32 5 _ rfl
  have y2 := two_b w #[.int .i64 A.n, .slice oa A.R.length ca, .int .i64 A.m, .int .i64 A.a, .slice fa A.F.length fca, .int .i64 A.t] 32 #[.int .i64 A.n, .slice ob A.R.length cb, .int .i64 A.m, .int .i64 A.a, .slice fb A.F.length fcb, .int .i64 A.t] 32 2 _ rfl
  have y3 := two_b w #[.int .i64 A.n, .slice oa A.R.length ca, .int .i64 A.m, .int .i64 A.a, .slice fa A.F.length fca, .int .i64 A.t] 32 #[.int .i64 A.n, .slice ob A.R.length cb, .int .i64 A.m, .int .i64 A.a, .slice fb A.F.length fcb, .int .i64 A.t] 32 3 _ rfl
  have y4 := two_b w #[.int .i64 A.n, .slice oa A.R.length ca, .int .i64 A.m, .int .i64 A.a, .slice fa A.F.length fca, .int .i64 A.t] 32 #[.int .i64 A.n, .slice ob A.R.length cb, .int .i64 A.m, .int .i64 A.a, .slice fb A.F.length fcb, .int .i64 A.t] 32 4 _ rfl
  have y5 := two_b w #[.int .i64 A.n, .slice oa A.R.length ca, .int .i64 A.m, .int .i64 A.a, .slice fa A.F.length fca, .int .i64 A.t] 32 #[.int .i64 A.n, .slice ob A.R.length cb, .int .i64 A.m, .int .i64 A.a, .slice fb A.F.length fcb, .int .i64 A.t] 32 5 _ rfl
  have e1 : (A.m != A.m) = false := by simp
  have e2 : (A.a != A.a) = false := by simp
  have e3 : (A.t != A.t) = false := by simp
  go_enter Tryz.func12, Tryz.ntmps12
  go_wp2_with (first | (go_at_call 90; refine Calls.mono (c_eqTable _ _ _ _ _ _ _ (hA.keep hb) (hB.keep hb)) ?_; rintro e w1 ⟨rfl, hbn⟩; replace x2 := cell_keep x2 hbn; replace x3 := cell_keep x3 hbn; replace x4 := cell_keep x4 hbn; replace x5 := cell_keep x5 hbn; replace y2 := cell_keep y2 hbn; replace y3 := cell_keep y3 hbn; replace y4 := cell_keep y4 hbn; replace y5 := cell_keep y5 hbn; replace hb := bel_to (w := w) (by first | exact hb | exact hb.alloc hb.size _ | exact (hb.alloc hb.size _).alloc (Nat.le_trans hb.size (by simp)) _ | exact hb.setCell (by simp [hb.size]) _) hbn; clear hbn) | (go_at_call 91; refine Calls.mono (Ans.eqb (b' := true) (c_eqDepS _ _ _ _ _ _ _ (hC.keep hb) (hD.keep hb)) (by simp)) ?_; rintro e w1 ⟨rfl, hbn⟩; replace x2 := cell_keep x2 hbn; replace x3 := cell_keep x3 hbn; replace x4 := cell_keep x4 hbn; replace x5 := cell_keep x5 hbn; replace y2 := cell_keep y2 hbn; replace y3 := cell_keep y3 hbn; replace y4 := cell_keep y4 hbn; replace y5 := cell_keep y5 hbn; replace hb := bel_to (w := w) (by first | exact hb | exact hb.alloc hb.size _ | exact (hb.alloc hb.size _).alloc (Nat.le_trans hb.size (by simp)) _ | exact hb.setCell (by simp [hb.size]) _) hbn; clear hbn) | fail)
  go_ret
  exact ⟨rfl, hb⟩
def set8 (w : World) (g k : Nat) (a4 a5 b0 b1 b2 b3 b4 b5 : Value) : World := (((((((w.setCell ⟨g, 4, none⟩ a4).setCell ⟨g, 5, none⟩ a5).setCell ⟨k, 0, none⟩ b0).setCell ⟨k, 1, none⟩ b1).setCell ⟨k, 2, none⟩ b2).setCell ⟨k, 3, none⟩ b3).setCell ⟨k, 4, none⟩ b4).setCell ⟨k, 5, none⟩ b5
theorem far8 {w : World} {B : Nat} {v : Value} {xs : List Value} {R : List (List Int)} (h : OwnRows w B v xs R) {g k : Nat} (hg : g < B) (hk : k < B) (a4 a5 b0 b1 b2 b3 b4 b5 : Value) : OwnRows (set8 w g k a4 a5 b0 b1 b2 b3 b4 b5) B v xs R :=
  (((((((h.far_set 4 a4 hg).far_set 5 a5 hg).far_set 0 b0 hk).far_set 1 b1 hk).far_set 2 b2 hk).far_set 3 b3 hk).far_set 4 b4 hk).far_set 5 b5 hk
theorem OwnD.far_set {w : World} {B g : Nat} {v : Value} {D : List (Int × Int)} (h : OwnD w B v D) (j : Nat) (u : Value) (hg : g < B) : OwnD (w.setCell ⟨g, j, none⟩ u) B v D := ownsRow_setCell_below h (a := ⟨g, j, none⟩) hg u
theorem dar8 {w : World} {B : Nat} {v : Value} {D : List (Int × Int)} (h : OwnD w B v D) {g k : Nat} (hg : g < B) (hk : k < B) (a4 a5 b0 b1 b2 b3 b4 b5 : Value) : OwnD (set8 w g k a4 a5 b0 b1 b2 b3 b4 b5) B v D :=
  (((((((OwnD.far_set h 4 a4 hg).far_set 5 a5 hg).far_set 0 b0 hk).far_set 1 b1 hk).far_set 2 b2 hk).far_set 3 b3 hk).far_set 4 b4 hk).far_set 5 b5 hk
theorem bar8 {w0 w : World} {B : Nat} (h : Below B w0 w) {g k : Nat} (hg : B ≤ g) (hk : B ≤ k) (a4 a5 b0 b1 b2 b3 b4 b5 : Value) : Below B w0 (set8 w g k a4 a5 b0 b1 b2 b3 b4 b5) :=
  Below.setCell (p := ⟨k, 5, none⟩) (Below.setCell (p := ⟨k, 4, none⟩) (Below.setCell (p := ⟨k, 3, none⟩) (Below.setCell (p := ⟨k, 2, none⟩) (Below.setCell (p := ⟨k, 1, none⟩) (Below.setCell (p := ⟨k, 0, none⟩) (Below.setCell (p := ⟨g, 5, none⟩) (Below.setCell (p := ⟨g, 4, none⟩) h hg a4) hg a5) hk b0) hk b1) hk b2) hk b3) hk b4) hk b5
def srZ : Array Value := #[.int .i64 0, .slice none 0 0, .int .i64 0, .int .i64 0, .slice none 0 0, .int .i64 0]
set_option maxHeartbeats 1600000 in
theorem c_toSearch (A : Sr) (oa fa) (ca fca : Nat) (w : World) (hA : RowsAt w oa A.R) (hC : DepsAt w fa A.F) :
    Calls Tryz.prog 10 #[.agg #[.int .i64 A.n, .slice oa A.R.length ca, .int .i64 A.m, .int .i64 A.a, .slice fa A.F.length fca, .int .i64 A.t]] w fun e w' => ∃ o c fo fc xs, e = .returned (.agg #[.int .i64 A.n, .slice o A.R.length c, .int .i64 A.m, .int .i64 A.a, .slice fo A.F.length fc, .int .i64 A.t]) ∧ OwnRows w' w.heap.size (.slice o A.R.length c) xs A.R ∧ OwnD w' w.heap.size (.slice fo A.F.length fc) A.F ∧ ApartR (.slice o A.R.length c) xs (.slice fo A.F.length fc) ∧ Below w.heap.size w w' := by
  have hb0 := ((((Below.refl w.heap.size w).alloc (Nat.le_refl _) (.cells #[.int .i64 A.n, .slice oa A.R.length ca, .int .i64 A.m, .int .i64 A.a, .slice fa A.F.length fca, .int .i64 A.t] 27)).alloc (by simp) (.cells srZ 32)).alloc (by simp; omega) (.cells srZ 32))
  unfold srZ at hb0
  go_enter Tryz.func10, Tryz.ntmps10
  go_wp2_with fail
  refine (c_toTableO A.n _ _ A.R _ (hA.keep hb0)).mono ?_
  rintro e w1 ⟨o, c, xs, rfl, hN, hbn⟩
  have kA : Blk w1 w.heap.size #[.int .i64 A.n, .slice oa A.R.length ca, .int .i64 A.m, .int .i64 A.a, .slice fa A.F.length fca, .int .i64 A.t] 27 :=
    (((Blk.new w _ _).alloc _).alloc _).keep hbn
  have kR : Blk w1 (w.heap.size + 1) srZ 32 := by
    have := (Blk.new (w.alloc (.cells #[.int .i64 A.n, .slice oa A.R.length ca, .int .i64 A.m, .int .i64 A.a, .slice fa A.F.length fca, .int .i64 A.t] 27)) srZ 32).alloc (.cells srZ 32)
    simp only [World.size_alloc] at this
    exact this.keep hbn
  have kT : Blk w1 (w.heap.size + 1 + 1) srZ 32 := by
    have := Blk.new ((w.alloc (.cells #[.int .i64 A.n, .slice oa A.R.length ca, .int .i64 A.m, .int .i64 A.a, .slice fa A.F.length fca, .int .i64 A.t] 27)).alloc (.cells srZ 32)) srZ 32
    simp only [World.size_alloc] at this
    exact this.keep hbn
  have p2 := kA.cell 2 _ rfl
  have p3 := kA.cell 3 _ rfl
  have p4 := kA.cell 4 _ rfl
  have t0 := kT.cell 0 _ rfl
  have t1 := kT.cell 1 _ rfl
  have t2 := kT.cell 2 _ rfl
  have t3 := kT.cell 3 _ rfl
  have s0 := kT.free 0
  have s1 := kT.free 1
  have s2 := kT.free 2
  have s3 := kT.free 3
  have hb1 := bel_to hb0 hbn
  have hbD : Below w.heap.size w ((((w1.setCell ⟨w.heap.size + 1 + 1, 0, none⟩ (.int .i64 A.n)).setCell ⟨w.heap.size + 1 + 1, 1, none⟩ (.slice o A.R.length c)).setCell ⟨w.heap.size + 1 + 1, 2, none⟩ (.int .i64 A.m)).setCell ⟨w.heap.size + 1 + 1, 3, none⟩ (.int .i64 A.a)) :=
    Below.setCell (Below.setCell (Below.setCell (Below.setCell hb1 (by simp; omega) _) (by simp; omega) _) (by simp; omega) _) (by simp; omega) _
  have hN2 := (((hN.far_set (g := w.heap.size + 1 + 1) 0 (.int .i64 A.n) (by simp)).far_set (g := w.heap.size + 1 + 1) 1 (.slice o A.R.length c) (by simp)).far_set (g := w.heap.size + 1 + 1) 2 (.int .i64 A.m) (by simp)).far_set (g := w.heap.size + 1 + 1) 3 (.int .i64 A.a) (by simp)
  have kT2 := (((kT.set 0 (.int .i64 A.n)).set 1 (.slice o A.R.length c)).set 2 (.int .i64 A.m)).set 3 (.int .i64 A.a)
  have kR2 := (((kR.far ⟨w.heap.size + 1 + 1, 0, none⟩ (.int .i64 A.n) (by simp)).far ⟨w.heap.size + 1 + 1, 1, none⟩ (.slice o A.R.length c) (by simp)).far ⟨w.heap.size + 1 + 1, 2, none⟩ (.int .i64 A.m) (by simp)).far ⟨w.heap.size + 1 + 1, 3, none⟩ (.int .i64 A.a) (by simp)
  have kA2 := (((kA.far ⟨w.heap.size + 1 + 1, 0, none⟩ (.int .i64 A.n) (by simp; omega)).far ⟨w.heap.size + 1 + 1, 1, none⟩ (.slice o A.R.length c) (by simp; omega)).far ⟨w.heap.size + 1 + 1, 2, none⟩ (.int .i64 A.m) (by simp; omega)).far ⟨w.heap.size + 1 + 1, 3, none⟩ (.int .i64 A.a) (by simp; omega)
  clear hbn kA kR kT hN hb1
  go_wp2_with fail
  refine (c_toDepS _ _ _ _ (hC.keep hbD)).mono ?_
  rintro e w2 ⟨v2, rfl, hO, hbn⟩
  have ap := hN2.fresh hO
  obtain ⟨fo, fc, rfl⟩ := hO.shape
  have hbase : w.heap.size + 1 + 1 + 1 ≤ w1.heap.size := by have h9 := World.block_lt_of_cell? _ _ t0; simp at h9; omega
  replace hO := hO.based (show w.heap.size + 1 + 1 + 1 ≤ _ by simp; omega)
  have hN3 := hN2.keep hbn
  have kT3 := kT2.keep hbn
  have kR3 := kR2.keep hbn
  have kA3 := kA2.keep hbn
  have hb2 := bel_to hbD hbn
  clear hbn hN2 kT2 kR2 kA2 hbD p2 p3 p4 t0 t1 t2 t3 s0 s1 s2 s3
  have p5 := kA3.cell 5 (.int .i64 A.t) rfl
  have t0 := kT3.cell 0 (.int .i64 A.n) rfl
  have t1 := kT3.cell 1 (.slice o A.R.length c) rfl
  have t2 := kT3.cell 2 (.int .i64 A.m) rfl
  have t3 := kT3.cell 3 (.int .i64 A.a) rfl
  have t4 := kT3.cell 4 (.slice none 0 0) rfl
  have t5 := kT3.cell 5 (.int .i64 0) rfl
  have s4 := kT3.free 4
  have s5 := kT3.free 5
  have r0 := kR3.cell 0 (.int .i64 0) rfl
  have r1 := kR3.cell 1 (.slice none 0 0) rfl
  have r2 := kR3.cell 2 (.int .i64 0) rfl
  have r3 := kR3.cell 3 (.int .i64 0) rfl
  have r4 := kR3.cell 4 (.slice none 0 0) rfl
  have r5 := kR3.cell 5 (.int .i64 0) rfl
  have q0 := kR3.free 0
  have q1 := kR3.free 1
  have q2 := kR3.free 2
  have q3 := kR3.free 3
  have q4 := kR3.free 4
  have q5 := kR3.free 5
  clear kT3 kR3 kA3
  go_wp2
  have x1 := far8 hN3 (g := w.heap.size + 1 + 1) (k := w.heap.size + 1) (by simp) (by simp <;> omega) (.slice fo A.F.length fc) (.int .i64 A.t) (.int .i64 A.n) (.slice o A.R.length c) (.int .i64 A.m) (.int .i64 A.a) (.slice fo A.F.length fc) (.int .i64 A.t)
  have x2 := dar8 hO (g := w.heap.size + 1 + 1) (k := w.heap.size + 1) (by omega) (by omega) (.slice fo A.F.length fc) (.int .i64 A.t) (.int .i64 A.n) (.slice o A.R.length c) (.int .i64 A.m) (.int .i64 A.a) (.slice fo A.F.length fc) (.int .i64 A.t)
  have x3 := bar8 hb2 (g := w.heap.size + 1 + 1) (k := w.heap.size + 1) (by omega) (by omega) (.slice fo A.F.length fc) (.int .i64 A.t) (.int .i64 A.n) (.slice o A.R.length c) (.int .i64 A.m) (.int .i64 A.a) (.slice fo A.F.length fc) (.int .i64 A.t)
  exact bodyPost_ret (v := .agg #[.int .i64 A.n, .slice o A.R.length c, .int .i64 A.m, .int .i64 A.a, .slice fo A.F.length fc, .int .i64 A.t]) (by simp [results, Tryz.results10, go_sem, r0, r1, r2, r3, r4, r5]) rfl
    ⟨o, c, fo, fc, xs, rfl, x1.based (by simp <;> omega), x2.based (by omega), ap, x3⟩
end Go.Proofs.YtjbmpnbfiahdhaaGreat
namespace Go.Proofs.YtjbmpnbfiahdhaaGreat
open Go.RowKit
set_option linter.unusedVariables false
set_option maxRecDepth 100000

def candF (N k : Nat) : Int × Int := (nth (partsF N) (k / N), ((k % N : Nat) : Int))
def covS (F : List (Int × Int)) (x r : Int) : Bool := F.any fun o => (o.2 == r) && ins o.1 x
def stepF (R : List (List Int)) (m : Int) (N k : Nat) (z : List (Int × Int) × Int) : List (Int × Int) × Int :=
  if hasc (candF N k).1 (candF N k).2 || covS z.1 (candF N k).1 (candF N k).2 then z else (if holdsF R m (candF N k).1 (candF N k).2 then z.1 ++ [((candF N k).1, (candF N k).2)] else z.1, z.2 + 1)
def repF (R : List (List Int)) (m : Int) (N : Nat) : Nat → List (Int × Int) × Int
  | 0 => ([], 0)
  | k + 1 => stepF R m N k (repF R m N k)
theorem parts_full {N : Nat} (hN : N ≤ 5) : (partsF N).length = 2 ^ N := by
  unfold partsF
  rw [if_pos ⟨by omega, by omega⟩, Int.toNat_natCast]
  unfold valS sortS finsB
  simp
theorem cand_ok {N k : Nat} (hN : N ≤ 5) (h1 : 1 ≤ N) (hk : k < N * 2 ^ N) : k / N < (partsF N).length ∧ St (candF N k).1 ∧ Co (candF N k).2 ∧ (candF N k).1 < 2 ^ N ∧ (candF N k).2 < N := by
  have h2 : k / N < (partsF N).length := by
    rw [parts_full hN]
    exact Nat.div_lt_of_lt_mul hk
  have hm := List.mem_iff_getElem?.2 ⟨k / N, nth_eq h2⟩
  have h3 := (partsF_mem (n := (N : Int)) (by omega) (by omega)).1 hm
  have h4 := (pow_wrap (n := (N : Int)) (by omega) (by omega)).2.1
  rw [Int.toNat_natCast] at h3 h4
  have h5 := Nat.mod_lt k (show 0 < N by omega)
  have e5 : St (candF N k).1 := ⟨h3.1, by show nth (partsF N) (k / N) < 32; omega⟩
  have e6 : Co (candF N k).2 := ⟨by show 0 ≤ ((k % N : Nat) : Int); omega, by show ((k % N : Nat) : Int) < 5; omega⟩
  exact ⟨h2, e5, e6, h3.2, by show ((k % N : Nat) : Int) < N; omega⟩
theorem rep_ok {R : List (List Int)} {m : Int} {N : Nat} (hN : N ≤ 5) (h1 : 1 ≤ N) : ∀ k, k ≤ N * 2 ^ N → (∀ o ∈ (repF R m N k).1, St o.1 ∧ Co o.2) ∧ (repF R m N k).1.length ≤ k ∧ 0 ≤ (repF R m N k).2 ∧ (repF R m N k).2 ≤ k
  | 0, _ => ⟨(fun o ho => by cases ho), Nat.le_refl _, Int.le_refl _, Int.le_refl _⟩
  | k + 1, hk => by
    obtain ⟨i1, i2, i3, i4⟩ := rep_ok (R := R) (m := m) hN h1 k (by omega)
    obtain ⟨_, c1, c2, _⟩ := cand_ok hN h1 (show k < N * 2 ^ N by omega)
    show (∀ o ∈ (stepF R m N k (repF R m N k)).1, St o.1 ∧ Co o.2) ∧ (stepF R m N k (repF R m N k)).1.length ≤ k + 1 ∧ 0 ≤ (stepF R m N k (repF R m N k)).2 ∧ (stepF R m N k (repF R m N k)).2 ≤ (k + 1 : Nat)
    unfold stepF
    split
    · exact ⟨i1, by omega, i3, by omega⟩
    · split
      · refine ⟨fun o ho => ?_, by rw [List.length_append]; simp; omega, by omega, by simp; omega⟩
        rcases List.mem_append.1 ho with h | h
        · exact i1 o h
        · rw [List.mem_singleton.1 h]; exact ⟨c1, c2⟩
      · exact ⟨i1, by show (repF R m N k).1.length ≤ k + 1; omega, by show 0 ≤ (repF R m N k).2 + 1; omega, by show (repF R m N k).2 + 1 ≤ ((k + 1 : Nat) : Int); omega⟩
theorem count_le {N : Nat} (hN : N ≤ 5) : N * 2 ^ N ≤ 160 := by
  have h : ∀ N < 6, N * 2 ^ N ≤ 160 := by decide
  exact h N (by omega)
theorem c_candidatesOf (N : Nat) (hN : N ≤ 5) (w : World) : Ans Tryz.prog 99 #[.int .i64 N] w (.int .i64 ((N * 2 ^ N : Nat) : Int)) := by
  unfold Ans
  have h : ∀ N < 6, wrap64 (((N : Nat) : Int) * 2 ^ N) = ((N * 2 ^ N : Nat) : Int) := by decide +kernel
  have h0 := h N (by omega)
  go_enter Tryz.func99, Tryz.ntmps99
  go_wp2
  go_ret
  exact ⟨ret_int (by simpa using h0), Below.refl _ _⟩
theorem c_l8Count (N : Nat) (hN : N ≤ 5) (w : World) : Ans Tryz.prog 101 #[.int .i64 N] w (.int .i64 ((N * 2 ^ N : Nat) : Int)) := by
  unfold Ans
  have h : ∀ N < 6, wrap64 (((N : Nat) : Int) * 2 ^ N) = ((N * 2 ^ N : Nat) : Int) := by decide +kernel
  have h0 := h N (by omega)
  go_enter Tryz.func101, Tryz.ntmps101
  go_wp2
  go_ret
  exact ⟨ret_int (by simpa using h0), Below.refl _ _⟩
set_option maxHeartbeats 800000 in
theorem c_candidate (N k : Nat) (hN : N ≤ 5) (h1 : 1 ≤ N) (hk : k < N * 2 ^ N) (w : World) :
    Ans Tryz.prog 106 #[.int .i64 N, .int .i64 k] w (.agg #[.int .i64 (candF N k).1, .int .i64 (candF N k).2]) := by
  unfold Ans
  obtain ⟨hlt, hst, hco, _, _⟩ := cand_ok hN h1 hk
  have hk160 := count_le hN
  have hpl := partsF_len N
  have hp0 : 0 < (partsF N).length := Nat.lt_of_le_of_lt (Nat.zero_le _) hlt
  obtain ⟨x, hx⟩ : ∃ x, x = (candF N k).1 := ⟨_, rfl⟩
  obtain ⟨r, hr⟩ : ∃ r, r = (candF N k).2 := ⟨_, rfl⟩
  rw [← hx, ← hr]
  obtain ⟨q, hq⟩ : ∃ q, q = k / N := ⟨_, rfl⟩
  have hx2 : x = nth (partsF N) q := by rw [hx, hq]; rfl
  have hr2 : r = (k : Int) % (N : Int) := by rw [hr]; show ((k % N : Nat) : Int) = _; exact Int.natCast_emod k N
  have hn0 : 0 < N := by omega
  have e1 : (k : Int).tdiv (N : Int) = (q : Int) := by rw [Int.tdiv_eq_ediv_of_nonneg (by omega), hq]; exact (Int.natCast_ediv k N).symm
  have e2 : (k : Int).tmod (N : Int) = r := by rw [Int.tmod_eq_emod_of_nonneg (by omega), hr2]
  have e3 : (k : Int) / (N : Int) = (q : Int) := by rw [hq]; exact (Int.natCast_ediv k N).symm
  rw [← hq] at hlt
  have hq160 : q ≤ 32 := by omega
  have hr1 : 0 ≤ r ∧ r < 5 := by rw [hr]; exact ⟨hco.1, hco.2⟩
  have hr5 := hr1.1
  have hr6 := hr1.2
  have HR2 : Hid (r = (k : Int) % (N : Int)) := hr2
  have HX2 : Hid (nth (partsF N) q = x) := hx2.symm
  have e4 : (k : Int) % (N : Int) = r := hr2.symm
  have e5 : IntKind.i64.wrap (q : Int) = (q : Int) := IntWalk.i64_in _ (by omega)
  have e6 : IntKind.i64.wrap r = r := IntWalk.i64_in _ (by omega)
  have e7 : ((N : Int) == 0) = false := by simp; omega
  have e8 : ¬ N = 0 := by omega
  clear hx hr hx2 hr2 hst hco hr1 hq
  have hb := (Below.refl w.heap.size w).alloc (Nat.le_refl _) (.cells #[.int .i64 0, .int .i64 0] 46)
  have kR := Blk.new w #[.int .i64 0, .int .i64 0] 46
  go_enter Tryz.func106, Tryz.ntmps106
  go_wp2_with fail
  go_region_with ((refine (c_PartsBySize (N : Int) _).mono ?_; rintro e w1 ⟨v, rfl, hP, hbn⟩; obtain ⟨o1, c1, rfl⟩ := hP.shape; obtain ⟨b2, off2, rfl, hbs2, hca⟩ := (hP.ints rfl (by unfold Room; omega)).at_ hp0; have hc2 := hca _ hlt; rw [HX2.out] at hc2; have kR1 := kR.drew.keep hbn; have r0 := kR1.cell 0 (.int .i64 0) rfl; have r1 := kR1.cell 1 (.int .i64 0) rfl; have q0 := kR1.free 0; have q1 := kR1.free 1; clear hca kR1))
  have hb1 := bel_to hb.drew hbn
  clear hbn hP hb kR
  go_wp2
  exact bodyPost_ret (v := .agg #[.int .i64 x, .int .i64 r]) (by simp [results, Tryz.results106, go_sem, r0, r1]) rfl ⟨rfl, Below.setCell (p := (⟨w.heap.size, 1, none⟩ : Addr)) (Below.setCell (p := (⟨w.heap.size, 0, none⟩ : Addr)) hb1 (Nat.le_refl _) _) (Nat.le_refl _) _⟩
set_option maxHeartbeats 800000 in
theorem c_l8Dep (N k : Nat) (hN : N ≤ 5) (h1 : 1 ≤ N) (hk : k < N * 2 ^ N) (w : World) :
    Ans Tryz.prog 107 #[.int .i64 N, .int .i64 k] w (.agg #[.int .i64 (candF N k).1, .int .i64 (candF N k).2]) := by
  unfold Ans
  obtain ⟨hlt, hst, hco, _, _⟩ := cand_ok hN h1 hk
  have hk160 := count_le hN
  have hpl := partsF_len N
  have hp0 : 0 < (partsF N).length := Nat.lt_of_le_of_lt (Nat.zero_le _) hlt
  obtain ⟨x, hx⟩ : ∃ x, x = (candF N k).1 := ⟨_, rfl⟩
  obtain ⟨r, hr⟩ : ∃ r, r = (candF N k).2 := ⟨_, rfl⟩
  rw [← hx, ← hr]
  obtain ⟨q, hq⟩ : ∃ q, q = k / N := ⟨_, rfl⟩
  have hx2 : x = nth (partsF N) q := by rw [hx, hq]; rfl
  have hr2 : r = (k : Int) % (N : Int) := by rw [hr]; show ((k % N : Nat) : Int) = _; exact Int.natCast_emod k N
  have hn0 : 0 < N := by omega
  have e1 : (k : Int).tdiv (N : Int) = (q : Int) := by rw [Int.tdiv_eq_ediv_of_nonneg (by omega), hq]; exact (Int.natCast_ediv k N).symm
  have e2 : (k : Int).tmod (N : Int) = r := by rw [Int.tmod_eq_emod_of_nonneg (by omega), hr2]
  have e3 : (k : Int) / (N : Int) = (q : Int) := by rw [hq]; exact (Int.natCast_ediv k N).symm
  rw [← hq] at hlt
  have hq160 : q ≤ 32 := by omega
  have hr1 : 0 ≤ r ∧ r < 5 := by rw [hr]; exact ⟨hco.1, hco.2⟩
  have hr5 := hr1.1
  have hr6 := hr1.2
  have HR2 : Hid (r = (k : Int) % (N : Int)) := hr2
  have HX2 : Hid (nth (partsF N) q = x) := hx2.symm
  have e4 : (k : Int) % (N : Int) = r := hr2.symm
  have e5 : IntKind.i64.wrap (q : Int) = (q : Int) := IntWalk.i64_in _ (by omega)
  have e6 : IntKind.i64.wrap r = r := IntWalk.i64_in _ (by omega)
  have e7 : ((N : Int) == 0) = false := by simp; omega
  have e8 : ¬ N = 0 := by omega
  clear hx hr hx2 hr2 hst hco hr1 hq
  have hb := (Below.refl w.heap.size w).alloc (Nat.le_refl _) (.cells #[.int .i64 0, .int .i64 0] 46)
  have kR := Blk.new w #[.int .i64 0, .int .i64 0] 46
  go_enter Tryz.func107, Tryz.ntmps107
  go_wp2_with fail
  refine (c_specPartsBySize (N : Int) _).mono ?_
  rintro e w1 ⟨v, rfl, hP, hbn⟩
  obtain ⟨o1, c1, rfl⟩ := hP.shape
  obtain ⟨b2, off2, rfl, hbs2, hca⟩ := (hP.ints rfl (by unfold Room; omega)).at_ hp0
  have hc2 := hca _ hlt
  rw [HX2.out] at hc2
  have kR1 := kR.keep hbn
  have r0 := kR1.cell 0 (.int .i64 0) rfl
  have r1 := kR1.cell 1 (.int .i64 0) rfl
  have q0 := kR1.free 0
  have q1 := kR1.free 1
  have hb1 := bel_to hb hbn
  clear hca kR1 hbn hP hb kR
  go_wp2_with fail
  go_region_with (fail)
  go_wp2
  exact bodyPost_ret (v := .agg #[.int .i64 x, .int .i64 r]) (by simp [results, Tryz.results107, go_sem, r0, r1]) rfl ⟨rfl, Below.setCell (p := (⟨w.heap.size, 1, none⟩ : Addr)) (Below.setCell (p := (⟨w.heap.size, 0, none⟩ : Addr)) hb1.drew (Nat.le_refl _) _) (Nat.le_refl _) _⟩
end Go.Proofs.YtjbmpnbfiahdhaaGreat
namespace Go.Proofs.YtjbmpnbfiahdhaaGreat
open Go.RowKit
set_option linter.unusedVariables false
set_option maxRecDepth 100000

def set6 (w : World) (k : Nat) (b0 b1 b2 b3 b4 b5 : Value) : World := (((((w.setCell ⟨k, 0, none⟩ b0).setCell ⟨k, 1, none⟩ b1).setCell ⟨k, 2, none⟩ b2).setCell ⟨k, 3, none⟩ b3).setCell ⟨k, 4, none⟩ b4).setCell ⟨k, 5, none⟩ b5
theorem OwnD.set_ne {w : World} {B g : Nat} {v : Value} {D : List (Int × Int)} (h : OwnD w B v D) (j : Nat) (u : Value) (hg : v.ownBlock ≠ some g) : OwnD (w.setCell ⟨g, j, none⟩ u) B v D := ownsRow_setCell_other h (a := ⟨g, j, none⟩) hg u
theorem OwnD.set6 {w : World} {B k : Nat} {v : Value} {D : List (Int × Int)} (h : OwnD w B v D) (hk : v.ownBlock ≠ some k) (b0 b1 b2 b3 b4 b5 : Value) : OwnD (set6 w k b0 b1 b2 b3 b4 b5) B v D :=
  (((((h.set_ne 0 b0 hk).set_ne 1 b1 hk).set_ne 2 b2 hk).set_ne 3 b3 hk).set_ne 4 b4 hk).set_ne 5 b5 hk
theorem bel_set6 {w0 w : World} {B : Nat} (h : Below B w0 w) {k : Nat} (hk : B ≤ k) (b0 b1 b2 b3 b4 b5 : Value) : Below B w0 (set6 w k b0 b1 b2 b3 b4 b5) :=
  Below.setCell (p := ⟨k, 5, none⟩) (Below.setCell (p := ⟨k, 4, none⟩) (Below.setCell (p := ⟨k, 3, none⟩) (Below.setCell (p := ⟨k, 2, none⟩) (Below.setCell (p := ⟨k, 1, none⟩) (Below.setCell (p := ⟨k, 0, none⟩) h hk b0) hk b1) hk b2) hk b3) hk b4) hk b5
theorem OwnD.nilcap {w : World} {B n c : Nat} {oa : Option Addr} {D : List (Int × Int)} (h : OwnD w B (.slice oa n c) D) : oa = none → c = 0 := by
  intro e
  subst e
  rcases h.2 with ⟨hv, _⟩ | ⟨g, c', cur, hv, _⟩
  · cases hv; rfl
  · cases hv
theorem OwnD.not_new {w : World} {B : Nat} {v : Value} {D : List (Int × Int)} (h : OwnD w B v D) {g : Nat} (hg : w.heap.size ≤ g) : v.ownBlock ≠ some g := fun e => by
  have := (World.ownsRow.lt h g e).2
  omega
theorem Fresh.self (w : World) (v : Value) : Fresh w v v := .inl rfl
theorem covS_take {F : List (Int × Int)} {x r : Int} {j : Nat} (hj : j < F.length) : covS (F.take (j + 1)) x r = (covS (F.take j) x r || ((nr F j == r) && ins (nl F j) x)) := by
  unfold covS
  rw [List.take_add_one, dnth_eq hj, List.any_append]; simp
theorem covS_at {F : List (Int × Int)} {x r : Int} {j : Nat} (hj : j < F.length) (h : ((nr F j == r) && ins (nl F j) x) = true) : covS F x r = true := List.any_eq_true.2 ⟨(nl F j, nr F j), List.mem_iff_getElem?.2 ⟨j, dnth_eq hj⟩, h⟩
theorem ask_cand {N k : Nat} {R : List (List Int)} {m : Int} (ht : isTabF N R = true) (hm : modeF m = true) (hk : k < N * 2 ^ N) : askF N R m (candF N k).1 (candF N k).2 = true := by
  obtain ⟨h1, h5, _, _⟩ := isTab_of ht
  obtain ⟨_, c1, c2, c3, c4⟩ := cand_ok (by omega) (by omega) hk
  unfold askF isDepF isAttr
  rw [ht, hm]
  simp only [Bool.and_self, Bool.true_and, Bool.and_eq_true, decide_eq_true_eq, Int.toNat_natCast]
  exact ⟨⟨⟨h1, ⟨⟨⟨by omega, h5⟩, c1.1⟩, c3⟩⟩, c2.1⟩, c4⟩
theorem Blk.grown {a b : World} {g : Nat} {c : Array Value} {T : TypeId} {row : Option Nat} (h : Blk a g c T) (hg : a.grownBy b row) (hne : some g ≠ row) : Blk b g c T := (hg.block g h.lt hne).trans h
theorem lit_keep {w w' : World} {n : Nat} {c : Array Value} {T : TypeId} (h : Below n (w.alloc (.cells c T)) w') (hn : n = w.heap.size + 1) : w'.heap[w.heap.size]? = some (.cells c T (0, 0)) := (h.block w.heap.size (by omega)).trans (heap_alloc_new w _)
theorem lit_keep_drew {w w' : World} {n : Nat} {c : Array Value} {T : TypeId} (h : Below n (w.alloc (.cells c T)).drew w') (hn : n = w.heap.size + 1) : w'.heap[w.heap.size]? = some (.cells c T (0, 0)) := (h.block w.heap.size (by omega)).trans (heap_alloc_new w _)
theorem own_snocD' {w : World} {base : Nat} {v : Value} {A : List (Int × Int)} {l r : Int} (h : w.ownsRow base 46 2 v (A.length + 1) (dcells A ++ [.int .i64 l, .int .i64 r])) : OwnD w base v (A ++ [(l, r)]) := OwnD.joined (B := [(l, r)]) h
theorem snoc_shape {w : World} {base : Nat} {v : Value} {A : List (Int × Int)} {d : Int × Int} (h : OwnD w base v (A ++ [d])) : ∃ o c, v = .slice o (A.length + 1) c := by
  obtain ⟨o, c, e⟩ := h.shape
  exact ⟨o, c, by rw [e]; simp⟩
set_option maxHeartbeats 3200000 in
theorem c_step (N k : Nat) (oa fo) (cap fc : Nat) (R : List (List Int)) (m t : Int) (F : List (Int × Int)) (B : Nat) (w : World) (hR : RowsAt w oa R) (ht : isTabF N R = true) (hm : modeF m = true) (hk : k < N * 2 ^ N)
    (hF : OwnD w B (.slice fo F.length fc) F) (hB : B ≤ w.heap.size) (hFl : F.length ≤ 160) (ht0 : 0 ≤ t) (ht1 : t ≤ 160) :
    Calls Tryz.prog 89 #[.agg #[.int .i64 N, .slice oa R.length cap, .int .i64 m, .int .i64 k, .slice fo F.length fc, .int .i64 t]] w fun e w' => ∃ fo' fc', e = .returned (.agg #[.int .i64 N, .slice oa R.length cap, .int .i64 m, .int .i64 ((k : Int) + 1), .slice fo' (stepF R m N k (F, t)).1.length fc', .int .i64 (stepF R m N k (F, t)).2]) ∧ OwnD w' B (.slice fo' (stepF R m N k (F, t)).1.length fc') (stepF R m N k (F, t)).1 ∧ Fresh w (.slice fo F.length fc) (.slice fo' (stepF R m N k (F, t)).1.length fc') ∧ Below w.heap.size w w' := by
  obtain ⟨i0, hi, hz0, hz1, hz2⟩ := info_parts info_dep
  obtain ⟨hn1, hn5, _, _⟩ := isTab_of ht
  have hN5 : N ≤ 5 := by omega
  have hN1 : 1 ≤ N := by omega
  have hk160 := count_le hN5
  obtain ⟨_, hst, hco, _, _⟩ := cand_ok hN5 hN1 hk
  have hask := ask_cand (R := R) (m := m) ht hm hk
  have HZ : Hid (stepF R m N k (F, t) = if hasc (candF N k).1 (candF N k).2 || covS F (candF N k).1 (candF N k).2 then (F, t) else (if holdsF R m (candF N k).1 (candF N k).2 then F ++ [((candF N k).1, (candF N k).2)] else F, t + 1)) := rfl
  have HCD : Hid (∀ w', Ans Tryz.prog 106 #[.int .i64 N, .int .i64 k] w' (.agg #[.int .i64 (candF N k).1, .int .i64 (candF N k).2])) := fun w' => c_candidate N k hN5 hN1 hk w'
  generalize hz : stepF R m N k (F, t) = z at *
  clear hz
  generalize (candF N k).1 = x at *
  generalize (candF N k).2 = r at *
  have hr64 : 0 ≤ r ∧ r < 64 := ⟨hco.1, by have := hco.2; omega⟩
  have hR0 := hR
  have hFn : (Value.slice fo F.length fc).ownBlock ≠ some w.heap.size ∧ (Value.slice fo F.length fc).ownBlock ≠ some (w.heap.size + 1) := ⟨hF.not_new (Nat.le_refl _), hF.not_new (Nat.le_succ _)⟩
  have HNC : Hid (fo = none → fc = 0) := hF.nilcap
  have HST : Hid (St x ∧ Co r) := ⟨hst, hco⟩
  have hb := bel2 w (.cells #[.int .i64 N, .slice oa R.length cap, .int .i64 m, .int .i64 k, .slice fo F.length fc, .int .i64 t] 32) (.cells srZ 32)
  have kS := (Blk.new w #[.int .i64 N, .slice oa R.length cap, .int .i64 m, .int .i64 k, .slice fo F.length fc, .int .i64 t] 32).alloc (.cells srZ 32)
  have kZ := Blk.new (w.alloc (.cells #[.int .i64 N, .slice oa R.length cap, .int .i64 m, .int .i64 k, .slice fo F.length fc, .int .i64 t] 32)) srZ 32
  simp only [World.size_alloc] at kZ
  have hF0 := hF.keep hb
  unfold srZ at hb kS kZ hF0
  have s0 := kS.cell 0 (.int .i64 N) rfl
  have s3 := kS.cell 3 (.int .i64 k) rfl
  clear hst hco ht hm hF
  go_enter Tryz.func89, Tryz.ntmps89
  go_wp2_with fail
  refine Calls.mono (HCD.out _) ?_
  rintro e w1 ⟨rfl, hbn⟩
  replace kS := kS.keep hbn
  replace kZ := kZ.keep hbn
  replace hF := hF0.keep hbn
  replace hb := bel_to hb hbn
  have hs1 : w.heap.size + 1 < w1.heap.size := kZ.lt
  clear hbn s0 s3 hF0
  have s3 := kS.cell 3 (.int .i64 k) rfl
  have kS1 := kS.alloc (.cells #[.int .i64 x, .int .i64 r] 46)
  have kZ1 := kZ.alloc (.cells #[.int .i64 x, .int .i64 r] 46)
  have kD1 := Blk.new w1 #[.int .i64 x, .int .i64 r] 46
  have hb1 := hb.alloc hb.size (.cells #[.int .i64 x, .int .i64 r] 46)
  have hF1 := hF.keep ((Below.refl w1.heap.size w1).alloc (Nat.le_refl _) (.cells #[.int .i64 x, .int .i64 r] 46))
  have hFd : (Value.slice fo F.length fc).ownBlock ≠ some w1.heap.size := hF.not_new (Nat.le_refl _)
  have s3' := kS1.cell 3 (.int .i64 k) rfl
  have f3' := kS1.free 3
  have kS2 : Blk _ w.heap.size #[.int .i64 N, .slice oa R.length cap, .int .i64 m, .int .i64 ((k : Int) + 1), .slice fo F.length fc, .int .i64 t] 32 := kS1.set 3 (.int .i64 ((k : Int) + 1))
  have kZ2 := kZ1.far ⟨w.heap.size, 3, none⟩ (.int .i64 ((k : Int) + 1)) (by simp)
  have kD2 := kD1.far ⟨w.heap.size, 3, none⟩ (.int .i64 ((k : Int) + 1)) (by simp; omega)
  have hb2 := Below.setCell (p := (⟨w.heap.size, 3, none⟩ : Addr)) hb1 (Nat.le_refl _) (.int .i64 ((k : Int) + 1))
  have hF2 := hF1.set_ne 3 (.int .i64 ((k : Int) + 1)) hFn.1
  have d0 := kD2.cell 0 (.int .i64 x) rfl
  have d1 := kD2.cell 1 (.int .i64 r) rfl
  have hs2 : w1.heap.size < ((w1.alloc (.cells #[.int .i64 x, .int .i64 r] 46)).setCell ⟨w.heap.size, 3, none⟩ (.int .i64 ((k : Int) + 1))).heap.size := by simp
  clear kS kZ hb kS1 kZ1 kD1 hb1 hF hF1
  go_wp2_with fail
  cases h1 : hasc x r
  · refine Calls.mono (Ans.eqb (c_has _ _ hr64 _) h1) ?_
    rintro e w3 ⟨rfl, hbn⟩
    replace kS2 := kS2.keep hbn
    replace kZ2 := kZ2.keep hbn
    replace kD2 := kD2.keep hbn
    replace hF2 := hF2.keep hbn
    replace hb2 := bel_to hb2 hbn
    clear hbn d0 d1 s3 s3' f3'
    have s4 := kS2.cell 4 (.slice fo F.length fc) rfl
    generalize hd9 : w1.heap.size = d at *
    have hsd : w.heap.size + 1 < d := hs1
    clear hd9 hs2 hs1
    have hFr : F.length ≤ Room := by unfold Room; omega
    go_wp2
    go_loopw [25] (fun i wr => ∃ j : Nat, i = .int .i64 j ∧ j ≤ F.length ∧ covS (F.take j) x r = false ∧ Blk wr w.heap.size #[.int .i64 N, .slice oa R.length cap, .int .i64 m, .int .i64 ((k : Int) + 1), .slice fo F.length fc, .int .i64 t] 32 ∧ Blk wr (w.heap.size + 1) srZ 32 ∧ Blk wr d #[.int .i64 x, .int .i64 r] 46 ∧ OwnD wr B (.slice fo F.length fc) F ∧ Below w.heap.size w wr) (fun i _ => F.length - (intOf i).toNat)
    case atStart => exact ⟨0, rfl, Nat.zero_le _, rfl, kS2, kZ2, kD2, hF2, hb2⟩
    case round =>
      clear kS2 kZ2 kD2 hF2 hb2 s4
      obtain ⟨j, rfl, hj, hcov, kS, kZ, kD, hF, hb⟩ := hrel
      have HC : Hid (covS (F.take j) x r = false) := hcov
      clear hcov
      by_cases hlt : j < F.length
      · obtain ⟨b, off, rfl, hbs, hc⟩ := (hF.deps rfl hFr).at_ (by omega)
        have hc1 := (hc j hlt).1
        have hc2 := (hc j hlt).2
        have HT : Hid (covS (F.take (j + 1)) x r = (covS (F.take j) x r || ((nr F j == r) && ins (nl F j) x))) := covS_take hlt
        have HA : Hid (((nr F j == r) && ins (nl F j) x) = true → covS F x r = true) := covS_at hlt
        clear hc
        generalize nl F j = a at *
        generalize nr F j = q at *
        have hba := (Below.refl wr.heap.size wr).alloc (Nat.le_refl _) (.cells #[.int .i64 a, .int .i64 q] 46)
        replace kS := kS.keep hba
        replace kZ := kZ.keep hba
        replace kD := kD.keep hba
        replace hF := hF.keep hba
        replace hb := bel_to hb hba
        have g0 := box_at wr #[.int .i64 a, .int .i64 q] 46 0 _ rfl
        have g1 := box_at wr #[.int .i64 a, .int .i64 q] 46 1 _ rfl
        have d0 := kD.cell 0 (.int .i64 x) rfl
        have d1 := kD.cell 1 (.int .i64 r) rfl
        clear hba
        cases hq : (q == r)
        · go_wp2
          go_roundw
          case rel => exact ⟨j + 1, by go_num, by omega, by rw [HT.out, HC.out, hq]; rfl, kS, kZ, kD, hF, hb⟩
          case measure => simp [intOf]; omega
        · cases hi3 : ins a x
          · go_wp2_with fail
            refine Calls.mono (Ans.eqb (c_inside _ _ _) hi3) ?_
            rintro e w4 ⟨rfl, hbn⟩
            replace kS := kS.keep hbn
            replace kZ := kZ.keep hbn
            replace kD := kD.keep hbn
            replace hF := hF.keep hbn
            replace hb := bel_to hb hbn
            clear hbn g0 g1 d0 d1
            go_wp2
            go_roundw
            case rel => exact ⟨j + 1, by go_num, by omega, by rw [HT.out, HC.out, hq, hi3]; rfl, kS, kZ, kD, hF, hb⟩
            case measure => simp [intOf]; omega
          · have HV : Hid (z = (F, t)) := by show z = (F, t); rw [HZ.out, h1, HA.out (by rw [hq, hi3]; rfl)]; rfl
            go_wp2_with fail
            refine Calls.mono (Ans.eqb (c_inside _ _ _) hi3) ?_
            rintro e w4 ⟨rfl, hbn⟩
            replace kS := kS.keep hbn
            replace kZ := kZ.keep hbn
            replace hF := hF.keep hbn
            replace hb := bel_to hb hbn
            clear hbn g0 g1 d0 d1 kD
            have s0 := kS.cell 0 (.int .i64 N) rfl
            have s1 := kS.cell 1 (.slice oa R.length cap) rfl
            have s2 := kS.cell 2 (.int .i64 m) rfl
            have s3 := kS.cell 3 (.int .i64 ((k : Int) + 1)) rfl
            have s4 := kS.cell 4 (.slice (some ⟨b, off, none⟩) F.length fc) rfl
            have s5 := kS.cell 5 (.int .i64 t) rfl
            have z0 := kZ.cell 0 (.int .i64 0) rfl
            have z1 := kZ.cell 1 (.slice none 0 0) rfl
            have z2 := kZ.cell 2 (.int .i64 0) rfl
            have z3 := kZ.cell 3 (.int .i64 0) rfl
            have z4 := kZ.cell 4 (.slice none 0 0) rfl
            have z5 := kZ.cell 5 (.int .i64 0) rfl
            have f0 := kZ.free 0
            have f1 := kZ.free 1
            have f2 := kZ.free 2
            have f3 := kZ.free 3
            have f4 := kZ.free 4
            have f5 := kZ.free 5
            go_wp2
            refine bodyPost_ret (v := .agg #[.int .i64 N, .slice oa R.length cap, .int .i64 m, .int .i64 ((k : Int) + 1), .slice (some ⟨b, off, none⟩) F.length fc, .int .i64 t]) (by simp [results, Tryz.results89, go_sem, z0, z1, z2, z3, z4, z5]) rfl ?_
            rw [HV.out]
            exact ⟨_, fc, rfl, OwnD.set6 hF hFn.2 _ _ _ _ _ _, Fresh.self _ _, bel_set6 hb (Nat.le_succ _) _ _ _ _ _ _⟩
      · have hjj : j = F.length := by omega
        have HCF : Hid (covS F x r = false) := by have h := HC.out; rw [hjj, List.take_length] at h; exact h
        clear hjj
        have s5 := kS.cell 5 (.int .i64 t) rfl
        have f5 := kS.free 5
        have kS2 : Blk _ w.heap.size #[.int .i64 N, .slice oa R.length cap, .int .i64 m, .int .i64 ((k : Int) + 1), .slice fo F.length fc, .int .i64 (t + 1)] 32 := kS.set 5 (.int .i64 (t + 1))
        have kZ2 := kZ.far ⟨w.heap.size, 5, none⟩ (.int .i64 (t + 1)) (by simp)
        have kD2 := kD.far ⟨w.heap.size, 5, none⟩ (.int .i64 (t + 1)) (by simp; omega)
        have hb2 := Below.setCell (p := (⟨w.heap.size, 5, none⟩ : Addr)) hb (Nat.le_refl _) (.int .i64 (t + 1))
        have hF2 := hF.set_ne 5 (.int .i64 (t + 1)) hFn.1
        have s0 := kS2.cell 0 (.int .i64 N) rfl
        have s1 := kS2.cell 1 (.slice oa R.length cap) rfl
        have s2 := kS2.cell 2 (.int .i64 m) rfl
        have d0 := kD2.cell 0 (.int .i64 x) rfl
        have d1 := kD2.cell 1 (.int .i64 r) rfl
        clear kS kZ kD hb hF
        go_wp2_with fail
        cases h2 : holdsF R m x r
        · have HV : Hid (z = (F, t + 1)) := by show z = (F, t + 1); rw [HZ.out, h1, HCF.out, h2]; rfl
          refine Calls.mono (Ans.eqb (b' := false) (c_HoldsDep N oa cap R m x r _ (hR0.keep hb2)) (by rw [h2]; simp)) ?_
          rintro e w5 ⟨rfl, hbn⟩
          replace kS2 := kS2.keep hbn
          replace kZ2 := kZ2.keep hbn
          replace hF2 := hF2.keep hbn
          replace hb2 := bel_to hb2 hbn
          clear hbn d0 d1 s0 s1 s2 s5 f5 kD2
          have s0 := kS2.cell 0 (.int .i64 N) rfl
          have s1 := kS2.cell 1 (.slice oa R.length cap) rfl
          have s2 := kS2.cell 2 (.int .i64 m) rfl
          have s3 := kS2.cell 3 (.int .i64 ((k : Int) + 1)) rfl
          have s4 := kS2.cell 4 (.slice fo F.length fc) rfl
          have s5 := kS2.cell 5 (.int .i64 (t + 1)) rfl
          have z0 := kZ2.cell 0 (.int .i64 0) rfl
          have z1 := kZ2.cell 1 (.slice none 0 0) rfl
          have z2 := kZ2.cell 2 (.int .i64 0) rfl
          have z3 := kZ2.cell 3 (.int .i64 0) rfl
          have z4 := kZ2.cell 4 (.slice none 0 0) rfl
          have z5 := kZ2.cell 5 (.int .i64 0) rfl
          have f0 := kZ2.free 0
          have f1 := kZ2.free 1
          have f2 := kZ2.free 2
          have f3 := kZ2.free 3
          have f4 := kZ2.free 4
          have f5 := kZ2.free 5
          go_wp2
          refine bodyPost_ret (v := .agg #[.int .i64 N, .slice oa R.length cap, .int .i64 m, .int .i64 ((k : Int) + 1), .slice fo F.length fc, .int .i64 (t + 1)]) (by simp [results, Tryz.results89, go_sem, z0, z1, z2, z3, z4, z5]) rfl ?_
          rw [HV.out]
          exact ⟨fo, fc, rfl, OwnD.set6 hF2 hFn.2 _ _ _ _ _ _, Fresh.self _ _, bel_set6 hb2 (Nat.le_succ _) _ _ _ _ _ _⟩
        · have HV : Hid (z = (F ++ [(x, r)], t + 1)) := by show z = _; rw [HZ.out, h1, HCF.out, h2]; rfl
          refine Calls.mono (Ans.eqb (b' := true) (c_HoldsDep N oa cap R m x r _ (hR0.keep hb2)) (by rw [h2, hask]; rfl)) ?_
          rintro e w5 ⟨rfl, hbn⟩
          replace kS2 := kS2.keep hbn
          replace kZ2 := kZ2.keep hbn
          replace kD2 := kD2.keep hbn
          replace hF2 := hF2.keep hbn
          replace hb2 := bel_to hb2 hbn
          clear hbn d0 d1 s0 s1 s2 s5 f5
          have s4 := kS2.cell 4 (.slice fo F.length fc) rfl
          have f4 := kS2.free 4
          have d0 := kD2.cell 0 (.int .i64 x) rfl
          have d1 := kD2.cell 1 (.int .i64 r) rfl
          have s4b : (w5.alloc (.cells #[.int .i64 x, .int .i64 r] 46)).drew.cell? ⟨w.heap.size, 4, none⟩ = some (.slice fo F.length fc) := (kS2.alloc _).cell 4 _ rfl
          have hbase : B ≤ w5.heap.size := Nat.le_trans hB hb2.size
          have h63 : F.length + 1 ≤ maxLen := by unfold maxLen; omega
          have h64 : (F.length + 1) * 16 ≤ 140737488355328 := by omega
          go_wp2_with fail
          go_region_law (first
            | (go_simp; refine (c_copyDeps fo fc F _ ((hF2.keep (by first | exact (Below.refl _ _).drew | exact (Below.refl _ _).drew.alloc (Nat.le_refl _) _)).deps rfl hFr) HNC.out).mono ?_; rintro e w6 ⟨v6, rfl, hO, hbn⟩; have hb56 := bel_to (w := w5) (by first | exact (Below.refl _ _).drew | exact (Below.refl _ _).drew.alloc (Nat.le_refl _) _) hbn; replace hO := hO.based (show w5.heap.size ≤ _ by simp); have kS6 := kS2.keep hb56; have kZ6 := kZ2.keep hb56; have kD6 := kD2.keep hb56; have hb6 := bel_to hb2 hb56; have d0 := kD6.cell 0 (.int .i64 x) rfl; have d1 := kD6.cell 1 (.int .i64 r) rfl)
            | (refine step_append_own _ (by rfl) _ _ 30 (by rfl) w5.heap.size 46 i0 (.agg #[.int .i64 0, .int .i64 0]) 2 16 Tryz.underlying30 hi hz0 hz1 hz2 rfl (by decide) v6 _ _ (by rfl) (World.ownsRow.alloc hO _) _ 1 1 [.int .i64 x, .int .i64 r] (by rfl) rfl (World.news_of_block (cs := #[.int .i64 x, .int .i64 r]) (t := 46) (fr := (0, 0)) (heap_alloc_new _ _)) (by intro u hu; simp at hu; rcases hu with rfl | rfl <;> rfl) (show _ from h63) (show _ from h64) (by have := hb56.size; simp; omega) ?_; intro v7 w7 hown hgrow; have hne9 := fun (g : Nat) (hg : g < w5.heap.size) => (show some g ≠ v6.ownBlock from fun e => by have := (World.ownsRow.lt hO g e.symm).1; omega); have kS7 := (kS6.alloc _).grown hgrow (hne9 _ kS2.lt); have kZ7 := (kZ6.alloc _).grown hgrow (hne9 _ kZ2.lt); have hb7 := (hb6.alloc hb6.size _).grown hgrow (by have := hb6.size; simp; omega) (fun g hg => Nat.le_trans hb2.size (World.ownsRow.lt hO g hg).1); have hO7 := own_snocD' hown; clear hown hgrow; obtain ⟨o7, c7, rfl⟩ := snoc_shape hO7; have s4 := kS7.cell 4 (.slice fo F.length fc) rfl; have f4 := kS7.free 4)
            | (refine step_append_own _ (by rfl) _ _ 30 (by rfl) w5.heap.size 46 i0 (.agg #[.int .i64 0, .int .i64 0]) 2 16 Tryz.underlying30 hi hz0 hz1 hz2 rfl (by decide) v6 _ _ (by rfl) hO _ 1 1 [.int .i64 x, .int .i64 r] (by rfl) rfl (World.news_of_block (cs := #[.int .i64 x, .int .i64 r]) (t := 46) (fr := (0, 0)) (lit_keep_drew hbn (by simp))) (by intro u hu; simp at hu; rcases hu with rfl | rfl <;> rfl) (show _ from h63) (show _ from h64) hb56.size ?_; intro v7 w7 hown hgrow; have hne9 := fun (g : Nat) (hg : g < w5.heap.size) => (show some g ≠ v6.ownBlock from fun e => by have := (World.ownsRow.lt hO g e.symm).1; omega); have kS7 := (kS6).grown hgrow (hne9 _ kS2.lt); have kZ7 := (kZ6).grown hgrow (hne9 _ kZ2.lt); have hb7 := (hb6).grown hgrow (by have := hb6.size; simp; omega) (fun g hg => Nat.le_trans hb2.size (World.ownsRow.lt hO g hg).1); have hO7 := own_snocD' hown; clear hown hgrow; obtain ⟨o7, c7, rfl⟩ := snoc_shape hO7; have s4 := kS7.cell 4 (.slice fo F.length fc) rfl; have f4 := kS7.free 4)
            | fail)
          all_goals
            have kS8 : Blk _ w.heap.size #[.int .i64 N, .slice oa R.length cap, .int .i64 m, .int .i64 ((k : Int) + 1), .slice o7 (F.length + 1) c7, .int .i64 (t + 1)] 32 := kS7.set 4 (.slice o7 (F.length + 1) c7)
            have kZ8 := kZ7.far ⟨w.heap.size, 4, none⟩ (.slice o7 (F.length + 1) c7) (by simp)
            have hb8 := Below.setCell (p := (⟨w.heap.size, 4, none⟩ : Addr)) hb7 (Nat.le_refl _) (.slice o7 (F.length + 1) c7)
            have hn7 : ∀ g, g < w5.heap.size → (Value.slice o7 (F.length + 1) c7).ownBlock ≠ some g := fun g hg e => by have := (World.ownsRow.lt hO7 g e).1; omega
            have hs5 := kS2.lt
            have hz5 := kZ2.lt
            have hO8 := hO7.set_ne 4 (.slice o7 (F.length + 1) c7) (hn7 _ hs5)
            have s0 := kS8.cell 0 (.int .i64 N) rfl
            have s1 := kS8.cell 1 (.slice oa R.length cap) rfl
            have s2 := kS8.cell 2 (.int .i64 m) rfl
            have s3 := kS8.cell 3 (.int .i64 ((k : Int) + 1)) rfl
            have s4 := kS8.cell 4 (.slice o7 (F.length + 1) c7) rfl
            have s5 := kS8.cell 5 (.int .i64 (t + 1)) rfl
            have z0 := kZ8.cell 0 (.int .i64 0) rfl
            have z1 := kZ8.cell 1 (.slice none 0 0) rfl
            have z2 := kZ8.cell 2 (.int .i64 0) rfl
            have z3 := kZ8.cell 3 (.int .i64 0) rfl
            have z4 := kZ8.cell 4 (.slice none 0 0) rfl
            have z5 := kZ8.cell 5 (.int .i64 0) rfl
            have f0 := kZ8.free 0
            have f1 := kZ8.free 1
            have f2 := kZ8.free 2
            have f3 := kZ8.free 3
            have f4 := kZ8.free 4
            have f5 := kZ8.free 5
            go_wp2
            refine bodyPost_ret (v := .agg #[.int .i64 N, .slice oa R.length cap, .int .i64 m, .int .i64 ((k : Int) + 1), .slice o7 (F.length + 1) c7, .int .i64 (t + 1)]) (by simp [results, Tryz.results89, go_sem, z0, z1, z2, z3, z4, z5]) rfl ?_
            rw [HV.out]
            have hl9 : (F ++ [(x, r)]).length = F.length + 1 := by simp
            refine ⟨o7, c7, ?_, ?_, ?_, bel_set6 hb8 (Nat.le_succ _) _ _ _ _ _ _⟩
            · show Ending.returned _ = Ending.returned (.agg #[.int .i64 N, .slice oa R.length cap, .int .i64 m, .int .i64 ((k : Int) + 1), .slice o7 (F ++ [(x, r)]).length c7, .int .i64 (t + 1)])
              rw [hl9]
            · show OwnD _ B (.slice o7 (F ++ [(x, r)]).length c7) (F ++ [(x, r)])
              rw [hl9]
              exact OwnD.set6 (hO8.based hbase) (hn7 _ hz5) _ _ _ _ _ _
            · show Fresh w _ (.slice o7 (F ++ [(x, r)]).length c7)
              rw [hl9]
              exact .inr (fun g hg => Nat.le_trans hb2.size (World.ownsRow.lt hO7 g hg).1)
  · refine Calls.mono (Ans.eqb (c_has _ _ hr64 _) h1) ?_
    rintro e w3 ⟨rfl, hbn⟩
    replace kS2 := kS2.keep hbn
    replace kZ2 := kZ2.keep hbn
    replace hF2 := hF2.keep hbn
    replace hb2 := bel_to hb2 hbn
    have HV : Hid (z = (F, t)) := by show z = (F, t); rw [HZ.out, h1]; rfl
    clear hbn d0 d1 s3 s3' f3' kD2
    have s0 := kS2.cell 0 (.int .i64 N) rfl
    have s1 := kS2.cell 1 (.slice oa R.length cap) rfl
    have s2 := kS2.cell 2 (.int .i64 m) rfl
    have s3 := kS2.cell 3 (.int .i64 ((k : Int) + 1)) rfl
    have s4 := kS2.cell 4 (.slice fo F.length fc) rfl
    have s5 := kS2.cell 5 (.int .i64 t) rfl
    have z0 := kZ2.cell 0 (.int .i64 0) rfl
    have z1 := kZ2.cell 1 (.slice none 0 0) rfl
    have z2 := kZ2.cell 2 (.int .i64 0) rfl
    have z3 := kZ2.cell 3 (.int .i64 0) rfl
    have z4 := kZ2.cell 4 (.slice none 0 0) rfl
    have z5 := kZ2.cell 5 (.int .i64 0) rfl
    have f0 := kZ2.free 0
    have f1 := kZ2.free 1
    have f2 := kZ2.free 2
    have f3 := kZ2.free 3
    have f4 := kZ2.free 4
    have f5 := kZ2.free 5
    go_wp2
    refine bodyPost_ret (v := .agg #[.int .i64 N, .slice oa R.length cap, .int .i64 m, .int .i64 ((k : Int) + 1), .slice fo F.length fc, .int .i64 t]) (by simp [results, Tryz.results89, go_sem, z0, z1, z2, z3, z4, z5]) rfl ?_
    rw [HV.out]
    exact ⟨fo, fc, rfl, OwnD.set6 hF2 hFn.2 _ _ _ _ _ _, Fresh.self _ _, bel_set6 hb2 (Nat.le_succ _) _ _ _ _ _ _⟩
end Go.Proofs.YtjbmpnbfiahdhaaGreat
namespace Go.Proofs.YtjbmpnbfiahdhaaGreat
open Go.RowKit
set_option linter.unusedVariables false
set_option maxRecDepth 100000

/-- Rows, each of which is nil without capacity, if it is nil. -/
def RowsC (w : World) (oa : Option Addr) (R : List (List Int)) : Prop := RowsAt w oa R ∧ ∀ (b off : Nat), oa = some ⟨b, off, none⟩ → ∀ k, k < R.length → ∀ o n c, w.cell? ⟨b, off + k, none⟩ = some (.slice o n c) → o = none → c = 0
theorem RowsC.keep {w w' : World} {oa : Option Addr} {R : List (List Int)} (h : RowsC w oa R) (hb : Below w.heap.size w w') : RowsC w' oa R :=
  ⟨h.1.keep hb, fun b off e k hk o n c hc => by
    obtain ⟨b', off', e', hlt, _⟩ := h.1.at_ (by omega)
    rw [e] at e'
    simp only [Option.some.injEq, Addr.mk.injEq, and_true] at e'
    obtain ⟨rfl, rfl⟩ := e'
    exact h.2 b off e k hk o n c (by rw [← hb.cell (p := ⟨b, off + k, none⟩) hlt]; exact hc)⟩
theorem OwnI.nilcap {w : World} {B n c : Nat} {oa : Option Addr} {L : List Int} (h : OwnI w B (.slice oa n c) L) : oa = none → c = 0 := by
  intro e
  subst e
  rcases h.2 with ⟨hv, _⟩ | ⟨g, c', cur, hv, _⟩
  · cases hv; rfl
  · cases hv
theorem OwnRows.readC {w : World} {B : Nat} {oa : Option Addr} {n c : Nat} {xs : List Value} {R : List (List Int)} (h : OwnRows w B (.slice oa n c) xs R) (hR : R.length ≤ Room) (hr : ∀ j, j < R.length → (row R j).length ≤ Room) : RowsC w oa R := by
  refine ⟨h.read hR hr, fun b off e k hk o n' c' hc ho => ?_⟩
  obtain ⟨g, e', _, hlt, hcell⟩ := h.at_ (by omega)
  rw [e'] at e
  simp only [Option.some.injEq, Addr.mk.injEq, and_true] at e
  obtain ⟨rfl, rfl⟩ := e
  obtain ⟨o2, c2, q1, q2, _⟩ := h.rows k hk
  have := hcell k hk
  rw [Nat.zero_add] at hc
  rw [hc, q1] at this
  simp only [Option.some.injEq, Value.slice.injEq] at this
  obtain ⟨rfl, _, rfl⟩ := this
  exact q2.nilcap ho
theorem take_row {R : List (List Int)} {k : Nat} (h : k < R.length) : R.take (k + 1) = R.take k ++ [row R k] := by rw [List.take_add_one, row_eq h]; rfl
set_option maxHeartbeats 800000 in
theorem c_copyRows (oa) (ca : Nat) (R : List (List Int)) (w : World) (hR : RowsC w oa R) :
    Calls Tryz.prog 187 #[.slice oa R.length ca] w fun e w' => ∃ o c xs, e = .returned (.slice o R.length c) ∧ OwnRows w' w.heap.size (.slice o R.length c) xs R ∧ Below w.heap.size w w' := by
  obtain ⟨j0, hj, hy0, hy1, hy2⟩ := info_parts info_ints
  have hn : R.length ≤ 1073741824 := hR.1.len
  have hb := (Below.refl w.heap.size w).alloc (Nat.le_refl _) (.cells #[] 58)
  have hC := OwnRows.empty w w.heap.size (Nat.le_refl _)
  have HR : Hid (RowsC w oa R) := hR
  clear hR
  go_enter Tryz.func187, Tryz.ntmps187
  go_wp2
  go_loopw [3, 9] (fun v i wr => ∃ (k : Nat) (xs : List Value), i = .int .i64 k ∧ k ≤ R.length ∧ OwnRows wr w.heap.size v xs (R.take k) ∧ Below w.heap.size w wr) (fun _ i _ => R.length - (intOf i).toNat)
  case atStart => exact ⟨0, [], rfl, Nat.zero_le _, by simpa using hC, hb⟩
  case round =>
    clear hC hb
    obtain ⟨k, xs, rfl, hk, hC, hb⟩ := hrel
    by_cases hlt : k < R.length
    · obtain ⟨b, off, rfl, hbs, hc⟩ := HR.out.1.at_ (by omega)
      obtain ⟨o, c, h1, r1⟩ := hc k hlt
      have hnil := HR.out.2 b off rfl k hlt o _ c h1
      have HT : Hid (R.take (k + 1) = R.take k ++ [row R k]) := take_row hlt
      have hc1 := cell_keep h1 hb
      have hxl := hC.len
      rw [List.length_take] at hxl
      have hxs : xs.length ≤ R.length := by omega
      clear hxl hc h1
      generalize row R k = L at *
      generalize R.take k = P at *
      go_wp2_with (first | (go_at_call 195; refine (c_copyInts _ _ _ _ (r1.keep hb) hnil).mono ?_; rintro e w1 ⟨v1, rfl, hI, hbn⟩; have ap := hC.fresh hI; replace hC := hC.keep hbn; replace hI := hI.based hb.size; replace hb := bel_to hb hbn; obtain ⟨o1, c1, rfl⟩ := hI.shape; clear hbn) | (at_builtin; refine wpList_append_fresh rfl _ _ 22 rfl w.heap.size 58 j0 (.slice none 0 0) 1 24 Tryz.underlying22 hj hy0 hy1 hy2 rfl (by decide) _ _ _ rfl (World.ownsRow.alloc hC.outer _) _ 1 1 [.slice o1 L.length c1] rfl rfl (by intro j u hj; match j, hj with | 0, hj => simp at hj; subst hj; simp [Addr.add]) (by intro u hu; simp at hu; subst hu; rfl) (by unfold maxLen; omega) (by omega) (by have := hb.size; simp; omega) ?_; intro v' w2 hown hgrow hfr; replace hb := (hb.alloc hb.size _).grown hgrow (by have := hb.size; simp; omega) (fun g hg => (World.ownsRow.lt hC.outer g hg).1); have hC2 := OwnRows.snoc hC hI ap hown hgrow hfr; clear hown hgrow hfr) | fail)
      go_roundw
      case rel => exact ⟨k + 1, _, by go_num, by omega, by rw [HT.out]; exact hC2, hb⟩
      case measure => simp [intOf]; omega
    · have hkk : k = R.length := by omega
      have HE : Hid (R.take k = R) := by show R.take k = R; rw [hkk, List.take_length]
      clear hkk
      rw [HE.out] at hC
      obtain ⟨o, c, rfl⟩ := hC.shape
      go_wp2
      go_ret
      exact ⟨_, _, _, rfl, hC, hb⟩
set_option maxHeartbeats 800000 in
theorem c_copyTable (n : Int) (oa) (ca : Nat) (R : List (List Int)) (w : World) (hR : RowsC w oa R) :
    Calls Tryz.prog 114 #[.agg #[.int .i64 n, .slice oa R.length ca]] w fun e w' => ∃ o c xs, e = .returned (.agg #[.int .i64 n, .slice o R.length c]) ∧ OwnRows w' w.heap.size (.slice o R.length c) xs R ∧ Below w.heap.size w w' := by
  have hb := bel2 w (.cells #[.int .i64 n, .slice oa R.length ca] 29) (.cells #[.int .i64 0, .slice none 0 0] 29)
  have a0 := two_a w #[.int .i64 n, .slice oa R.length ca] 29 #[.int .i64 0, .slice none 0 0] 29 0 _ rfl
  have a1 := two_a w #[.int .i64 n, .slice oa R.length ca] 29 #[.int .i64 0, .slice none 0 0] 29 1 _ rfl
  have kA := (Blk.new w #[.int .i64 n, .slice oa R.length ca] 29).alloc (.cells #[.int .i64 0, .slice none 0 0] 29)
  have kZ := Blk.new (w.alloc (.cells #[.int .i64 n, .slice oa R.length ca] 29)) #[.int .i64 0, .slice none 0 0] 29
  simp only [World.size_alloc] at kZ
  go_enter Tryz.func114, Tryz.ntmps114
  go_wp2_with fail
  go_region_with ((refine (c_copyRows oa ca R _ (hR.keep hb.drew)).mono ?_; rintro e w1 ⟨o, c, xs, rfl, hN, hbn⟩; have kA1 := kA.drew.keep hbn; have kZ1 := kZ.drew.keep hbn; have a0' := kA1.cell 0 (.int .i64 n) rfl; have z0 := kZ1.cell 0 (.int .i64 0) rfl; have z1 := kZ1.cell 1 (.slice none 0 0) rfl; have f0 := kZ1.free 0; have f1 := kZ1.free 1; have hb1 := bel_to hb.drew hbn; clear hbn))
  all_goals
    go_wp2
    have x1 := (hN.far_set (g := w.heap.size + 1) 0 (.int .i64 n) (by simp)).far_set (g := w.heap.size + 1) 1 (.slice o R.length c) (by simp)
    exact bodyPost_ret (v := .agg #[.int .i64 n, .slice o R.length c]) (by simp [results, Tryz.results114, go_sem, z0, z1]) rfl ⟨o, c, xs, rfl, x1.based (by simp; omega), Below.setCell (p := (⟨w.heap.size + 1, 1, none⟩ : Addr)) (Below.setCell (p := (⟨w.heap.size + 1, 0, none⟩ : Addr)) hb1 (Nat.le_succ _) _) (Nat.le_succ _) _⟩
end Go.Proofs.YtjbmpnbfiahdhaaGreat
namespace Go.Proofs.YtjbmpnbfiahdhaaGreat
open Go.RowKit
set_option linter.unusedVariables false
set_option maxRecDepth 100000

theorem bel_set2 {w0 w : World} {B : Nat} (h : Below B w0 w) {k : Nat} (hk : B ≤ k) (b0 b1 : Value) : Below B w0 ((w.setCell ⟨k, 0, none⟩ b0).setCell ⟨k, 1, none⟩ b1) :=
  Below.setCell (p := ⟨k, 1, none⟩) (Below.setCell (p := ⟨k, 0, none⟩) h hk b0) hk b1
theorem apart_lit {v : Value} {g n c : Nat} (h : v.ownBlock ≠ some g) : Apart (.slice (some ⟨g, 0, none⟩) n c) v := Or.inr fun e => h e.symm
theorem Blk.world {w : World} {g : Nat} {c : Array Value} {T : TypeId} (h : Blk w g c T) : ∃ w', w' = w := ⟨w, rfl⟩
theorem drew_grown {w w' : World} {row : Option Nat} (h : w.drew.grownBy w' row) : w.grownBy w' row := ⟨h.os, h.tape, h.output, h.size, h.block⟩
theorem drew_fresh {w : World} {v v' : Value} (h : Fresh w.drew v v') : Fresh w v v' := h
def OldR (S : Nat) (v : Value) (xs : List Value) : Prop := ∀ y, y = v ∨ y ∈ xs → ∀ g, y.ownBlock = some g → g < S
theorem OwnRows.old {w : World} {B S : Nat} {v : Value} {xs : List Value} {R : List (List Int)} (h : OwnRows w B v xs R) (hS : w.heap.size ≤ S) : OldR S v xs := by
  intro y hy g hg
  rcases hy with rfl | hy
  · exact Nat.lt_of_lt_of_le (World.ownsRow.lt h.outer g hg).2 hS
  · obtain ⟨j, _, o, c, e, h2, _⟩ := h.one hy
    exact Nat.lt_of_lt_of_le (World.ownsRow.lt h2 g hg).2 hS
theorem OwnRows.lowS {w : World} {B S : Nat} {v : Value} {xs : List Value} {R : List (List Int)} (h : OwnRows w B v xs R) (hS : S ≤ B) : ∀ y ∈ xs, ∀ g, y.ownBlock = some g → S ≤ g := by
  intro y hy g hg
  obtain ⟨j, _, o, c, e, h2, _⟩ := h.one hy
  exact Nat.le_trans hS (World.ownsRow.lt h2 g hg).1
theorem OwnRows.many {w w' : World} {B S : Nat} {v : Value} {xs vs : List Value} {R : List (List Int)} (h : OwnRows w B v xs R) (hg : GrownMany w w' vs) (hl : ∀ y ∈ vs, ∀ g, y.ownBlock = some g → S ≤ g) (ho : OldR S v xs) : OwnRows w' B v xs R := by
  have hap : ∀ u, u = v ∨ u ∈ xs → ∀ y ∈ vs, Apart u y := by
    intro u hu y hy
    cases e : u.ownBlock with
    | none => exact .inl e
    | some g => exact .inr fun e' => by have := ho u hu g e; have := hl y hy g (by rw [← e', e]); omega
  refine ⟨h.len, owns_many h.outer hg (hap v (.inl rfl)), fun j hj => ?_, h.pair⟩
  obtain ⟨o, c, h1, h2, h3⟩ := h.rows j hj
  exact ⟨o, c, h1, h2.many hg (hap _ (.inr (List.mem_iff_getElem?.2 ⟨j, h1⟩))), h3⟩
theorem OwnRows.after {w w' : World} {B size n : Nat} {e : TypeId} {u v : Value} {ys xs : List Value} {R : List (List Int)} (h : OwnRows w' w.heap.size v xs R) (h' : w.ownsRow B e size u n ys) : ApartR v xs u :=
  ⟨(apart_old h' h.outer).symm, fun y hy => by obtain ⟨j, _, o, c, e, h2, _⟩ := h.one hy; exact (apart_old h' h2).symm⟩
theorem Blk.many {w w' : World} {k : Nat} {c : Array Value} {T : TypeId} {vs : List Value} (h : Blk w k c T) (hg : GrownMany w w' vs) (hn : ∀ y ∈ vs, y.ownBlock ≠ some k) : Blk w' k c T := (hg.block k h.lt hn).trans h
theorem OwnRows.readSeq {w : World} {B c : Nat} {oa : Option Addr} {xs : List Value} {R : List (List Int)} {k : Int} (h : OwnRows w B (.slice oa R.length c) xs (seqR k R)) (hR : R.length ≤ Room) (hr : ∀ j, j < R.length → (row R j).length ≤ Room) : RowsAt w oa (seqR k R) :=
  h.read (by rw [seqR_length]; exact hR) (fun j hj => by rw [seqR_length] at hj; rw [seqR_row hj, seqI_length]; exact hr j hj)
theorem OwnRows.baseLe {w : World} {B S : Nat} {v : Value} {xs : List Value} {R : List (List Int)} (_ : OwnRows w B v xs R) (h : S ≤ B) : S ≤ B := h
theorem sum_le {R : List (List Int)} {m : Nat} (h : ∀ j, j < R.length → (row R j).length ≤ m) : ∀ k, k ≤ R.length → sumL R k ≤ m * k
  | 0, _ => by simp [sumL]
  | k + 1, hk => by
    rw [sumL_succ (by omega), Nat.mul_succ]
    have := sum_le h k (by omega)
    have := h k (by omega)
    omega
/-- Neither the list nor a row of it lies in block k. -/
def Avoid (k : Nat) (v : Value) (xs : List Value) : Prop := ∀ y, y = v ∨ y ∈ xs → y.ownBlock ≠ some k
theorem set_apart {w : World} {B size n k j : Nat} {e : TypeId} {y u : Value} {ys : List Value} (h : w.ownsRow B e size y n ys) (hk : y.ownBlock ≠ some k) : (w.setCell ⟨k, j, none⟩ u).ownsRow B e size y n ys :=
  World.ownsRow.kept h (grown_set w k j _) (.inr hk)
theorem ownRows_setAvoid {w : World} {B k : Nat} {v : Value} {xs : List Value} {R : List (List Int)} (h : OwnRows w B v xs R) (ha : Avoid k v xs) (j : Nat) (u : Value) : OwnRows (w.setCell ⟨k, j, none⟩ u) B v xs R :=
  ⟨h.len, set_apart h.outer (ha v (.inl rfl)), fun t ht => by
    obtain ⟨o, c, h1, h2, h3⟩ := h.rows t ht
    exact ⟨o, c, h1, set_apart h2 (ha _ (.inr (List.mem_iff_getElem?.2 ⟨t, h1⟩))), h3⟩, h.pair⟩
/-- 't.Rows = append(t.Rows, r)' for a table that the call made. -/
theorem tab_snoc {w w5 w7 : World} {B k6 c c5 nC : Nat} {hd v' : Value} {T T2 : TypeId} {o o5 : Option Addr} {xs : List Value} {P : List (List Int)} {C : List Int} (hnC : C.length = nC)
    (hO : OwnRows w5 B (.slice o P.length c) xs P) (hC : OwnI w5 B (.slice o5 nC c5) C) (hap : ApartR (.slice o P.length c) xs (.slice o5 nC c5))
    (kb : Blk w5 k6 #[hd, .slice o P.length c] T) (av : Avoid k6 (.slice o P.length c) xs) (avC : (Value.slice o5 nC c5).ownBlock ≠ some k6) (hb : Below w.heap.size w w5) (hB : w.heap.size ≤ B) (hk6 : w.heap.size ≤ k6)
    (hown : w7.ownsRow B 58 1 v' (xs.length + 1) (xs ++ [.slice o5 nC c5])) (hgrow : (w5.alloc (.cells #[.slice o5 nC c5] T2)).grownBy w7 (Value.slice o P.length c).ownBlock) (hfr : Fresh (w5.alloc (.cells #[.slice o5 nC c5] T2)) (.slice o P.length c) v') :
    (∃ o' c', v' = .slice o' (P.length + 1) c') ∧ w7.cell? ⟨k6, 1, none⟩ = some (.slice o P.length c) ∧ w7.frozen? ⟨k6, 1, none⟩ = false ∧ Blk (w7.setCell ⟨k6, 1, none⟩ v') k6 #[hd, v'] T ∧
    OwnRows (w7.setCell ⟨k6, 1, none⟩ v') B v' (xs ++ [.slice o5 nC c5]) (P ++ [C]) ∧ Avoid k6 v' (xs ++ [.slice o5 nC c5]) ∧ Below w.heap.size w (w7.setCell ⟨k6, 1, none⟩ v') ∧
    (∀ (B' : Nat) (e : TypeId) (size : Nat) (u : Value) (n : Nat) (ys : List Value), w5.ownsRow B' e size u n ys → Apart u (.slice o P.length c) → u.ownBlock ≠ some k6 → (w7.setCell ⟨k6, 1, none⟩ v').ownsRow B' e size u n ys ∧ Apart u v') ∧
    (∀ (g : Nat) (cs : Array Value) (T' : TypeId), Blk w5 g cs T' → g ≠ k6 → (Value.slice o P.length c).ownBlock ≠ some g → Blk (w7.setCell ⟨k6, 1, none⟩ v') g cs T') := by
  subst hnC
  have hO2 := OwnRows.snoc hO hC hap hown hgrow hfr
  have hsh : ∃ o' c', v' = .slice o' (P.length + 1) c' := by
    obtain ⟨o', c', e⟩ := hO2.shape
    exact ⟨o', c', by rw [e]; simp⟩
  have hv : v'.ownBlock ≠ some k6 := by
    rcases hfr with h | h
    · rw [h]; exact av _ (.inl rfl)
    · intro e
      have h1 := h k6 e
      have h2 := kb.lt
      simp at h1; omega
  have av2 : Avoid k6 v' (xs ++ [.slice o5 C.length c5]) := by
    intro y hy
    rcases hy with rfl | hy
    · exact hv
    · rcases List.mem_append.1 hy with hy | hy
      · exact av y (.inr hy)
      · rw [List.mem_singleton] at hy; subst hy; exact avC
  have k7 : Blk w7 k6 #[hd, .slice o P.length c] T := (kb.alloc _).grown hgrow (fun e => av _ (.inl rfl) e.symm)
  have hb7 : Below w.heap.size w w7 := (hb.alloc hb.size _).grown hgrow (by have := hb.size; simp; omega) (fun g hg => Nat.le_trans hB (World.ownsRow.lt hO.outer g hg).1)
  refine ⟨hsh, k7.cell 1 _ rfl, k7.free 1, k7.set 1 v', ownRows_setAvoid hO2 av2 1 v', av2, Below.setCell (p := (⟨k6, 1, none⟩ : Addr)) hb7 hk6 v', ?_, ?_⟩
  · intro B' e size u n ys h ha hk
    have h1 := World.ownsRow.alloc h (.cells #[.slice o5 C.length c5] T2)
    exact ⟨set_apart (World.ownsRow.kept h1 hgrow ha) hk, Apart.next h1 ha hfr⟩
  · intro g cs T' h hg hne
    exact ((h.alloc _).grown hgrow (fun e => hne e.symm)).far ⟨k6, 1, none⟩ v' hg

theorem oldR_le {S S' : Nat} {v : Value} {xs : List Value} (h : OldR S v xs) (hS : S ≤ S') : OldR S' v xs := fun y hy g e => Nat.lt_of_lt_of_le (h y hy g e) hS
theorem apartR_none (v : Value) (xs : List Value) : ApartR v xs (.slice none 0 0) := ⟨Apart.symm (.inl rfl), fun y _ => Apart.symm (.inl rfl)⟩
theorem ownD_none (w : World) (base : Nat) : OwnD w base (.slice none 0 0) [] := ⟨rfl, Or.inl ⟨rfl, rfl⟩⟩
theorem Blk.keepTo {w w' : World} {g B : Nat} {c : Array Value} {T : TypeId} (h : Blk w g c T) (hg : g < B) (hb : Below B w w') : Blk w' g c T := (hb.block g hg).trans h
end Go.Proofs.YtjbmpnbfiahdhaaGreat
