/- Contracts and lemmas for FnExactArmstrongTable, part 4 of 4. -/
import Derived.Test.YtjbmpnbfiahdhaaQArmstrongTable1
import Derived.Test.YtjbmpnbfiahdhaaQArmstrongTable2
import Derived.Test.YtjbmpnbfiahdhaaQArmstrongTable3
import Derived.Deep.RegionHeld3
import Derived.Deep.RegionLaw
import Derived.IntWalk
import Derived.ProofKit
import Derived.OpenShut
import Derived.Lib.SmallJoins
import Derived.Deep.SlicePairs
import Derived.Deep.Matrix
import Derived.Deep.AppendLies
import Derived.Deep.CutRange
namespace Go.Proofs.Ytjbmpnbfiahdhaa
open Go.RowKit
set_option linter.unusedVariables false
set_option maxRecDepth 100000

def candF (N k : Nat) : Int × Int := (nth (partsF N) (k / N), ((k % N : Nat) : Int))
def covS (F : List (Int × Int)) (x r : Int) : Bool := F.any fun o => (o.2 == r) && ins o.1 x
def stepF (R : List (List Int)) (m : Int) (N k : Nat) (z : List (Int × Int) × Int) : List (Int × Int) × Int :=
  if hasc (candF N k).1 (candF N k).2 || covS z.1 (candF N k).1 (candF N k).2 then z else (if holdsF R m (candF N k).1 (candF N k).2 then z.1 ++ [((candF N k).1, (candF N k).2)] else z.1, z.2 + 1)
def repF (R : List (List Int)) (m : Int) (N : Nat) : Nat → List (Int × Int) × Int
  | 0 => ([], 0)
  | k + 1 => stepF R m N k (repF R m N k)
theorem parts_full {N : Nat} (hN : N ≤ 5) : (partsF N).length = 2 ^ N := by
  unfold partsF
  rw [if_pos ⟨by omega, by omega⟩, Int.toNat_natCast]
  unfold valS sortS finsB
  simp
theorem cand_ok {N k : Nat} (hN : N ≤ 5) (h1 : 1 ≤ N) (hk : k < N * 2 ^ N) : k / N < (partsF N).length ∧ St (candF N k).1 ∧ Co (candF N k).2 ∧ (candF N k).1 < 2 ^ N ∧ (candF N k).2 < N := by
  have h2 : k / N < (partsF N).length := by
    rw [parts_full hN]
    exact Nat.div_lt_of_lt_mul hk
  have hm := List.mem_iff_getElem?.2 ⟨k / N, nth_eq h2⟩
  have h3 := (partsF_mem (n := (N : Int)) (by omega) (by omega)).1 hm
  have h4 := (pow_wrap (n := (N : Int)) (by omega) (by omega)).2.1
  rw [Int.toNat_natCast] at h3 h4
  have h5 := Nat.mod_lt k (show 0 < N by omega)
  have e5 : St (candF N k).1 := ⟨h3.1, by show nth (partsF N) (k / N) < 32; omega⟩
  have e6 : Co (candF N k).2 := ⟨by show 0 ≤ ((k % N : Nat) : Int); omega, by show ((k % N : Nat) : Int) < 5; omega⟩
  exact ⟨h2, e5, e6, h3.2, by show ((k % N : Nat) : Int) < N; omega⟩
theorem rep_ok {R : List (List Int)} {m : Int} {N : Nat} (hN : N ≤ 5) (h1 : 1 ≤ N) : ∀ k, k ≤ N * 2 ^ N → (∀ o ∈ (repF R m N k).1, St o.1 ∧ Co o.2) ∧ (repF R m N k).1.length ≤ k ∧ 0 ≤ (repF R m N k).2 ∧ (repF R m N k).2 ≤ k
  | 0, _ => ⟨(fun o ho => by cases ho), Nat.le_refl _, Int.le_refl _, Int.le_refl _⟩
  | k + 1, hk => by
    obtain ⟨i1, i2, i3, i4⟩ := rep_ok (R := R) (m := m) hN h1 k (by omega)
    obtain ⟨_, c1, c2, _⟩ := cand_ok hN h1 (show k < N * 2 ^ N by omega)
    show (∀ o ∈ (stepF R m N k (repF R m N k)).1, St o.1 ∧ Co o.2) ∧ (stepF R m N k (repF R m N k)).1.length ≤ k + 1 ∧ 0 ≤ (stepF R m N k (repF R m N k)).2 ∧ (stepF R m N k (repF R m N k)).2 ≤ (k + 1 : Nat)
    unfold stepF
    split
    · exact ⟨i1, by omega, i3, by omega⟩
    · split
      · refine ⟨fun o ho => ?_, by rw [List.length_append]; simp; omega, by omega, by simp; omega⟩
        rcases List.mem_append.1 ho with h | h
        · exact i1 o h
        · rw [List.mem_singleton.1 h]; exact ⟨c1, c2⟩
      · exact ⟨i1, by show (repF R m N k).1.length ≤ k + 1; omega, by show 0 ≤ (repF R m N k).2 + 1; omega, by show (repF R m N k).2 + 1 ≤ ((k + 1 : Nat) : Int); omega⟩
theorem count_le {N : Nat} (hN : N ≤ 5) : N * 2 ^ N ≤ 160 := by
  have h : ∀ N < 6, N * 2 ^ N ≤ 160 := by decide
  exact h N (by omega)
theorem c_candidatesOf (N : Nat) (hN : N ≤ 5) (w : World) : Ans Try.prog 101 #[.int .i64 N] w (.int .i64 ((N * 2 ^ N : Nat) : Int)) := by
  unfold Ans
  have h : ∀ N < 6, wrap64 (((N : Nat) : Int) * 2 ^ N) = ((N * 2 ^ N : Nat) : Int) := by decide +kernel
  have h0 := h N (by omega)
  go_enter Try.func101, Try.ntmps101
  go_wp2
  go_ret
  exact ⟨ret_int (by simpa using h0), Below.refl _ _⟩
theorem c_l8Count (N : Nat) (hN : N ≤ 5) (w : World) : Ans Try.prog 97 #[.int .i64 N] w (.int .i64 ((N * 2 ^ N : Nat) : Int)) := by
  unfold Ans
  have h : ∀ N < 6, wrap64 (((N : Nat) : Int) * 2 ^ N) = ((N * 2 ^ N : Nat) : Int) := by decide +kernel
  have h0 := h N (by omega)
  go_enter Try.func97, Try.ntmps97
  go_wp2
  go_ret
  exact ⟨ret_int (by simpa using h0), Below.refl _ _⟩
set_option maxHeartbeats 800000 in
theorem c_candidate (N k : Nat) (hN : N ≤ 5) (h1 : 1 ≤ N) (hk : k < N * 2 ^ N) (w : World) :
    Ans Try.prog 167 #[.int .i64 N, .int .i64 k] w (.agg #[.int .i64 (candF N k).1, .int .i64 (candF N k).2]) := by
  unfold Ans
  obtain ⟨hlt, hst, hco, _, _⟩ := cand_ok hN h1 hk
  have hk160 := count_le hN
  have hpl := partsF_len N
  have hp0 : 0 < (partsF N).length := Nat.lt_of_le_of_lt (Nat.zero_le _) hlt
  obtain ⟨x, hx⟩ : ∃ x, x = (candF N k).1 := ⟨_, rfl⟩
  obtain ⟨r, hr⟩ : ∃ r, r = (candF N k).2 := ⟨_, rfl⟩
  rw [← hx, ← hr]
  obtain ⟨q, hq⟩ : ∃ q, q = k / N := ⟨_, rfl⟩
  have hx2 : x = nth (partsF N) q := by rw [hx, hq]; rfl
  have hr2 : r = (k : Int) % (N : Int) := by rw [hr]; show ((k % N : Nat) : Int) = _; exact Int.natCast_emod k N
  have hn0 : 0 < N := by omega
  have e1 : (k : Int).tdiv (N : Int) = (q : Int) := by rw [Int.tdiv_eq_ediv_of_nonneg (by omega), hq]; exact (Int.natCast_ediv k N).symm
  have e2 : (k : Int).tmod (N : Int) = r := by rw [Int.tmod_eq_emod_of_nonneg (by omega), hr2]
  have e3 : (k : Int) / (N : Int) = (q : Int) := by rw [hq]; exact (Int.natCast_ediv k N).symm
  rw [← hq] at hlt
  have hq160 : q ≤ 32 := by omega
  have hr1 : 0 ≤ r ∧ r < 5 := by rw [hr]; exact ⟨hco.1, hco.2⟩
  have hr5 := hr1.1
  have hr6 := hr1.2
  have HR2 : Hid (r = (k : Int) % (N : Int)) := hr2
  have HX2 : Hid (nth (partsF N) q = x) := hx2.symm
  have e4 : (k : Int) % (N : Int) = r := hr2.symm
  have e5 : IntKind.i64.wrap (q : Int) = (q : Int) := IntWalk.i64_in _ (by omega)
  have e6 : IntKind.i64.wrap r = r := IntWalk.i64_in _ (by omega)
  have e7 : ((N : Int) == 0) = false := by simp; omega
  have e8 : ¬ N = 0 := by omega
  clear hx hr hx2 hr2 hst hco hr1 hq
  have hb := (Below.refl w.heap.size w).alloc (Nat.le_refl _) (.cells #[.int .i64 0, .int .i64 0] 55)
  have kR := Blk.new w #[.int .i64 0, .int .i64 0] 55
  go_enter Try.func167, Try.ntmps167
  go_wp2_with fail
  go_region_with ((refine (c_PartsBySize (N : Int) _).mono ?_; rintro e w1 ⟨v, rfl, hP, hbn⟩; obtain ⟨o1, c1, rfl⟩ := hP.shape; obtain ⟨b2, off2, rfl, hbs2, hca⟩ := (hP.ints rfl (by unfold Room; omega)).at_ hp0; have hc2 := hca _ hlt; rw [HX2.out] at hc2; have kR1 := kR.drew.keep hbn; have r0 := kR1.cell 0 (.int .i64 0) rfl; have r1 := kR1.cell 1 (.int .i64 0) rfl; have q0 := kR1.free 0; have q1 := kR1.free 1; clear hca kR1))
  have hb1 := bel_to hb.drew hbn
  clear hbn hP hb kR
  go_wp2
  exact bodyPost_ret (v := .agg #[.int .i64 x, .int .i64 r]) (by simp [results, Try.results167, go_sem, r0, r1]) rfl ⟨rfl, Below.setCell (p := (⟨w.heap.size, 1, none⟩ : Addr)) (Below.setCell (p := (⟨w.heap.size, 0, none⟩ : Addr)) hb1 (Nat.le_refl _) _) (Nat.le_refl _) _⟩
set_option maxHeartbeats 800000 in
theorem c_l8Dep (N k : Nat) (hN : N ≤ 5) (h1 : 1 ≤ N) (hk : k < N * 2 ^ N) (w : World) :
    Ans Try.prog 163 #[.int .i64 N, .int .i64 k] w (.agg #[.int .i64 (candF N k).1, .int .i64 (candF N k).2]) := by
  unfold Ans
  obtain ⟨hlt, hst, hco, _, _⟩ := cand_ok hN h1 hk
  have hk160 := count_le hN
  have hpl := partsF_len N
  have hp0 : 0 < (partsF N).length := Nat.lt_of_le_of_lt (Nat.zero_le _) hlt
  obtain ⟨x, hx⟩ : ∃ x, x = (candF N k).1 := ⟨_, rfl⟩
  obtain ⟨r, hr⟩ : ∃ r, r = (candF N k).2 := ⟨_, rfl⟩
  rw [← hx, ← hr]
  obtain ⟨q, hq⟩ : ∃ q, q = k / N := ⟨_, rfl⟩
  have hx2 : x = nth (partsF N) q := by rw [hx, hq]; rfl
  have hr2 : r = (k : Int) % (N : Int) := by rw [hr]; show ((k % N : Nat) : Int) = _; exact Int.natCast_emod k N
  have hn0 : 0 < N := by omega
  have e1 : (k : Int).tdiv (N : Int) = (q : Int) := by rw [Int.tdiv_eq_ediv_of_nonneg (by omega), hq]; exact (Int.natCast_ediv k N).symm
  have e2 : (k : Int).tmod (N : Int) = r := by rw [Int.tmod_eq_emod_of_nonneg (by omega), hr2]
  have e3 : (k : Int) / (N : Int) = (q : Int) := by rw [hq]; exact (Int.natCast_ediv k N).symm
  rw [← hq] at hlt
  have hq160 : q ≤ 32 := by omega
  have hr1 : 0 ≤ r ∧ r < 5 := by rw [hr]; exact ⟨hco.1, hco.2⟩
  have hr5 := hr1.1
  have hr6 := hr1.2
  have HR2 : Hid (r = (k : Int) % (N : Int)) := hr2
  have HX2 : Hid (nth (partsF N) q = x) := hx2.symm
  have e4 : (k : Int) % (N : Int) = r := hr2.symm
  have e5 : IntKind.i64.wrap (q : Int) = (q : Int) := IntWalk.i64_in _ (by omega)
  have e6 : IntKind.i64.wrap r = r := IntWalk.i64_in _ (by omega)
  have e7 : ((N : Int) == 0) = false := by simp; omega
  have e8 : ¬ N = 0 := by omega
  clear hx hr hx2 hr2 hst hco hr1 hq
  have hb := (Below.refl w.heap.size w).alloc (Nat.le_refl _) (.cells #[.int .i64 0, .int .i64 0] 55)
  have kR := Blk.new w #[.int .i64 0, .int .i64 0] 55
  go_enter Try.func163, Try.ntmps163
  go_wp2_with fail
  refine (c_specPartsBySize (N : Int) _).mono ?_
  rintro e w1 ⟨v, rfl, hP, hbn⟩
  obtain ⟨o1, c1, rfl⟩ := hP.shape
  obtain ⟨b2, off2, rfl, hbs2, hca⟩ := (hP.ints rfl (by unfold Room; omega)).at_ hp0
  have hc2 := hca _ hlt
  rw [HX2.out] at hc2
  have kR1 := kR.keep hbn
  have r0 := kR1.cell 0 (.int .i64 0) rfl
  have r1 := kR1.cell 1 (.int .i64 0) rfl
  have q0 := kR1.free 0
  have q1 := kR1.free 1
  have hb1 := bel_to hb hbn
  clear hca kR1 hbn hP hb kR
  go_wp2_with fail
  go_region_with (fail)
  go_wp2
  exact bodyPost_ret (v := .agg #[.int .i64 x, .int .i64 r]) (by simp [results, Try.results163, go_sem, r0, r1]) rfl ⟨rfl, Below.setCell (p := (⟨w.heap.size, 1, none⟩ : Addr)) (Below.setCell (p := (⟨w.heap.size, 0, none⟩ : Addr)) hb1.drew (Nat.le_refl _) _) (Nat.le_refl _) _⟩
end Go.Proofs.Ytjbmpnbfiahdhaa
namespace Go.Proofs.Ytjbmpnbfiahdhaa
open Go.ChangeShapes Go.WideShapes Go.ChangeAt Go.RowKit
set_option linter.unusedVariables false
set_option maxRecDepth 100000

theorem open_ints {H : Type} {enc : TypeId × Value → H} {W : World} {base : Nat} {held : Bool} {v : Value} {d : DataW H} {ps : List MemPlace} (hok : Value.okWide Try.prog W .any base 68 v)
    (h : DataW.Trod enc Try.prog W 0 (fun _ => true) held 68 v d ps) : InInts W v := by
  obtain ⟨a0, len0, cap0, rfl⟩ := okWide_slice Try.underlying68 hok
  obtain ⟨fuel, hf⟩ := h
  rcases Go.ChangeShapes.open_ints Try.underlying68 Try.underlying3 (by kernel_rfl) hf with ⟨hcs, _⟩ | ⟨x, l, c, zs, hcs, _, hl, hm, hz, _, hcell, hwz⟩
  · simp [Value.cells] at hcs
    obtain ⟨rfl, rfl, rfl⟩ := hcs
    exact ⟨_, _, _, [], rfl, .inl ⟨rfl, rfl, rfl, rfl⟩⟩
  · simp [Value.cells] at hcs
    obtain ⟨rfl, rfl, rfl⟩ := hcs
    exact ⟨_, _, _, zs, rfl, .inr ⟨_, rfl, hl, hm, by simpa using hz, hcell, hwz⟩⟩
end Go.Proofs.Ytjbmpnbfiahdhaa
namespace Go.Proofs.Ytjbmpnbfiahdhaa
open Go.ChangeShapes Go.WideShapes Go.ChangeAt Go.RowKit Go.Joins
set_option linter.unusedVariables false
set_option maxRecDepth 100000

theorem add_at (b off j : Nat) : (⟨b, off, none⟩ : Addr).add j = ⟨b, off + j, none⟩ := by unfold Addr.add; split <;> simp_all

theorem open_deps {H : Type} {enc : TypeId × Value → H} {W : World} {base : Nat} {held : Bool} {v : Value} {d : DataW H} {ps : List MemPlace} (hok : Value.okWide Try.prog W .any base 22 v)
    (h : DataW.Trod enc Try.prog W 0 (fun _ => true) held 22 v d ps) : InDeps W v := by
  obtain ⟨a0, len0, cap0, rfl⟩ := okWide_slice Try.underlying22 hok
  obtain ⟨fuel, hf⟩ := h
  rcases Go.Deep.open_slice_pairs Try.underlying22 Try.underlying104 (by kernel_rfl) rfl rfl (by kernel_rfl) (by kernel_rfl) hf with ⟨hcs, _⟩ | ⟨x, l, c, m, n, V0, V1, D0, D1, P0, P1, hcs, _, hl, hm, hmm, _, hcell⟩
  · simp [Value.cells] at hcs
    obtain ⟨rfl, rfl, rfl⟩ := hcs
    exact ⟨_, _, _, rfl, Nat.zero_le _, fun _ => ⟨[], rfl, by simp, fun h => absurd h (by simp)⟩⟩
  · simp [Value.cells] at hcs
    obtain ⟨rfl, rfl, rfl⟩ := hcs
    simp only [if_true] at hmm
    subst hmm
    refine ⟨_, _, _, rfl, Nat.le_trans hl hm, fun hr => ?_⟩
    have each : ∀ i, i < len0 → ∃ q : Int × Int, V0 i = .int .i64 q.1 ∧ V1 i = .int .i64 q.2 := by
      intro i hi
      obtain ⟨_, _, t0, t1⟩ := hcell i (by omega)
      obtain ⟨z0, e0, _⟩ := DataW.trod_int Try.underlying3 t0
      obtain ⟨z1, e1, _⟩ := DataW.trod_int Try.underlying3 t1
      simp at e0 e1
      exact ⟨(z0, z1), e0, e1⟩
    obtain ⟨q, hq⟩ := Go.Deep.choose_lt each
    refine ⟨(List.range len0).map q, by simp, by simpa using hr, fun h0 => ?_⟩
    simp only [List.length_map, List.length_range] at h0
    obtain ⟨b, off, spot⟩ := x
    have hc := (hcell 0 (by omega)).1
    have hspot : spot = none := by simpa [Addr.add] using World.cell?_spot hc
    subst hspot
    refine ⟨b, off, rfl, World.block_lt_of_cell? W ⟨b, off, none⟩ (by simpa [Addr.add] using hc), fun k hk => ?_⟩
    simp only [List.length_map, List.length_range] at hk
    obtain ⟨c0, c1, _⟩ := hcell k (by omega)
    rw [add_at] at c0 c1
    obtain ⟨e0, e1⟩ := hq k hk
    rw [e0] at c0
    rw [e1] at c1
    rw [Nat.add_assoc, c0, c1]
    have e : ((List.range len0).map q).getD k (0, 0) = q k := by simp [List.getD, hk]
    unfold nl nr
    rw [e]; exact ⟨rfl, rfl⟩

theorem open_dep {H : Type} {enc : TypeId × Value → H} {W : World} {base : Nat} {held : Bool} {v : Value} {d : DataW H} {ps : List MemPlace} (hok : Value.okWide Try.prog W .any base 104 v)
    (h : DataW.Trod enc Try.prog W 0 (fun _ => true) held 104 v d ps) : ∃ l r : Int, v = .agg #[.int .i64 l, .int .i64 r] ∧ (Lit.int .i64 l).wf = true ∧ (Lit.int .i64 r).wf = true := by
  obtain ⟨c0, c1, y0, y1, m, rfl, rfl, rfl, hy0, hy1⟩ := open_agg2 Try.underlying104 (by kernel_rfl) (by kernel_rfl) hok h
  obtain ⟨z0, e0, _, w0⟩ := DataW.trod_int Try.underlying3 hy0
  obtain ⟨z1, e1, _, w1⟩ := DataW.trod_int Try.underlying3 hy1
  simp at e0 e1
  subst e0 e1
  exact ⟨_, _, rfl, w0, w1⟩
end Go.Proofs.Ytjbmpnbfiahdhaa
namespace Go.Proofs.Ytjbmpnbfiahdhaa
open Go.ChangeShapes Go.WideShapes Go.ChangeAt Go.RowKit Go.Joins
set_option linter.unusedVariables false
set_option maxRecDepth 100000

def InTab (w : World) (v : Value) : Prop := ∃ (n : Int) (oa : Option Addr) (l c : Nat) (Ln : Nat → Nat), v = .agg #[.int .i64 n, .slice oa l c] ∧ RowsIn w oa l Ln
theorem open_table {H : Type} {enc : TypeId × Value → H} {W : World} {base : Nat} {held : Bool} {v : Value} {d : DataW H} {ps : List MemPlace} (hok : Value.okWide Try.prog W .any base 36 v)
    (h : DataW.Trod enc Try.prog W 0 (fun _ => true) held 36 v d ps) : InTab W v := by
  obtain ⟨c0, c1, y0, y1, m, rfl, rfl, rfl, hy0, hy1⟩ := open_agg2 Try.underlying36 (by kernel_rfl) (by kernel_rfl) hok h
  obtain ⟨z0, e0, _, w0⟩ := DataW.trod_int Try.underlying3 hy0
  simp at e0
  subst e0
  rcases Go.Deep.open_int_rows Try.underlying24 Try.underlying68 Try.underlying3 (by kernel_rfl) (by kernel_rfl) hy1 with ⟨hcs, _⟩ | ⟨a, len, cap, A, L, C, Z, hcs, _, hl, hm, _, hr⟩
  · simp at hcs
    subst hcs
    exact ⟨_, _, _, _, fun _ => 0, rfl, Nat.zero_le _, fun h => absurd h (by simp)⟩
  · simp at hcs
    subst hcs
    refine ⟨_, _, _, _, L, rfl, Nat.le_trans hl hm, fun h0 => ?_⟩
    obtain ⟨b, off, spot⟩ := a
    have hc := (hr 0 (by omega)).1
    have hspot : spot = none := by simpa [Addr.add] using World.cell?_spot hc
    subst hspot
    refine ⟨b, off, rfl, World.block_lt_of_cell? W ⟨b, off, none⟩ (by simpa [Addr.add] using hc), fun r hrl => ?_⟩
    obtain ⟨h1, h2, h3, h4, h5, h6, h7⟩ := hr r (by omega)
    rw [add_at] at h1
    refine ⟨Nat.le_trans h2 h3, A r, C r, h1, fun hroom => ?_⟩
    refine IsRow.ints (cap := C r) (zs := Z r) ?_ hroom
    cases hA : A r with
    | none =>
      have hz : C r = 0 := h6 hA
      refine .inl ⟨rfl, by omega, hz, List.eq_nil_of_length_eq_zero (by omega)⟩
    | some a' =>
      obtain ⟨_, hcell⟩ := h7 a' hA
      exact .inr ⟨a', rfl, h2, h3, h4, fun i hi => hcell i (by omega), h5⟩
theorem RowsIn.keep {w w' : World} {oa : Option Addr} {l : Nat} {Ln : Nat → Nat} (h : RowsIn w oa l Ln) (hk : Below w.heap.size w w') : RowsIn w' oa l Ln :=
  ⟨h.len, fun h0 => by
    obtain ⟨b, off, e, hlt, hr⟩ := h.rows h0
    exact ⟨b, off, e, Nat.lt_of_lt_of_le hlt hk.size, fun r hrl => by
      obtain ⟨m, o, c, h1, h2⟩ := hr r hrl
      exact ⟨m, o, c, cell_keep h1 hk, fun hq => by
        obtain ⟨L, e1, e2⟩ := h2 hq
        exact ⟨L, e1, e2.keep hk⟩⟩⟩⟩
end Go.Proofs.Ytjbmpnbfiahdhaa
namespace Go.Proofs.Ytjbmpnbfiahdhaa
open Go.ChangeShapes Go.WideShapes Go.ChangeAt Go.RowKit Go.Joins
set_option linter.unusedVariables false
set_option maxRecDepth 100000

theorem deps_of_trod {H : Type} {enc : TypeId × Value → H} {W : World} {held : Bool} {fuel : Nat} {v : Value} {x : DataW H × List MemPlace} (hf : DataW.trod enc Try.prog W 0 (fun _ => true) held fuel 22 [v] = some x) : InDeps W v := by
  rcases Go.Deep.open_slice_pairs Try.underlying22 Try.underlying104 (by kernel_rfl) rfl rfl (by kernel_rfl) (by kernel_rfl) hf with ⟨hcs, _⟩ | ⟨x, l, c, m, n, V0, V1, D0, D1, P0, P1, hcs, _, hl, hm, hmm, _, hcell⟩
  · simp at hcs
    subst hcs
    exact ⟨_, _, _, rfl, Nat.zero_le _, fun _ => ⟨[], rfl, by simp, fun h => absurd h (by simp)⟩⟩
  · simp at hcs
    subst hcs
    simp only [if_true] at hmm
    subst hmm
    refine ⟨_, _, _, rfl, Nat.le_trans hl hm, fun hr => ?_⟩
    have each : ∀ i, i < l → ∃ q : Int × Int, V0 i = .int .i64 q.1 ∧ V1 i = .int .i64 q.2 := by
      intro i hi
      obtain ⟨_, _, t0, t1⟩ := hcell i (by omega)
      obtain ⟨z0, e0, _⟩ := DataW.trod_int Try.underlying3 t0
      obtain ⟨z1, e1, _⟩ := DataW.trod_int Try.underlying3 t1
      simp at e0 e1
      exact ⟨(z0, z1), e0, e1⟩
    obtain ⟨q, hq⟩ := Go.Deep.choose_lt each
    refine ⟨(List.range l).map q, by simp, by simpa using hr, fun h0 => ?_⟩
    simp only [List.length_map, List.length_range] at h0
    obtain ⟨b, off, spot⟩ := x
    have hc := (hcell 0 (by omega)).1
    have hspot : spot = none := by simpa [Addr.add] using World.cell?_spot hc
    subst hspot
    refine ⟨b, off, rfl, World.block_lt_of_cell? W ⟨b, off, none⟩ (by simpa [Addr.add] using hc), fun k hk => ?_⟩
    simp only [List.length_map, List.length_range] at hk
    obtain ⟨c0, c1, _⟩ := hcell k (by omega)
    rw [add_at] at c0 c1
    obtain ⟨e0, e1⟩ := hq k hk
    rw [e0] at c0
    rw [e1] at c1
    rw [Nat.add_assoc, c0, c1]
    have e : ((List.range l).map q).getD k (0, 0) = q k := by simp [List.getD, hk]
    unfold nl nr
    rw [e]; exact ⟨rfl, rfl⟩
theorem rows_of_trod {H : Type} {enc : TypeId × Value → H} {W : World} {held : Bool} {fuel : Nat} {v : Value} {x : DataW H × List MemPlace} (hy1 : DataW.trod enc Try.prog W 0 (fun _ => true) held fuel 24 [v] = some x) : ∃ (oa : Option Addr) (l c : Nat) (Ln : Nat → Nat), v = .slice oa l c ∧ RowsIn W oa l Ln := by
  rcases Go.Deep.open_int_rows Try.underlying24 Try.underlying68 Try.underlying3 (by kernel_rfl) (by kernel_rfl) hy1 with ⟨hcs, _⟩ | ⟨a, len, cap, A, L, C, Z, hcs, _, hl, hm, _, hr⟩
  · simp at hcs
    subst hcs
    exact ⟨_, _, _, fun _ => 0, rfl, Nat.zero_le _, fun h => absurd h (by simp)⟩
  · simp at hcs
    subst hcs
    refine ⟨_, _, _, L, rfl, Nat.le_trans hl hm, fun h0 => ?_⟩
    obtain ⟨b, off, spot⟩ := a
    have hc := (hr 0 (by omega)).1
    have hspot : spot = none := by simpa [Addr.add] using World.cell?_spot hc
    subst hspot
    refine ⟨b, off, rfl, World.block_lt_of_cell? W ⟨b, off, none⟩ (by simpa [Addr.add] using hc), fun r hrl => ?_⟩
    obtain ⟨h1, h2, h3, h4, h5, h6, h7⟩ := hr r (by omega)
    rw [add_at] at h1
    refine ⟨Nat.le_trans h2 h3, A r, C r, h1, fun hroom => ?_⟩
    refine IsRow.ints (cap := C r) (zs := Z r) ?_ hroom
    cases hA : A r with
    | none =>
      have hz : C r = 0 := h6 hA
      refine .inl ⟨rfl, by omega, hz, List.eq_nil_of_length_eq_zero (by omega)⟩
    | some a' =>
      obtain ⟨_, hcell⟩ := h7 a' hA
      exact .inr ⟨a', rfl, h2, h3, h4, fun i hi => hcell i (by omega), h5⟩
def InSr (w : World) (v : Value) : Prop := ∃ (n m a t : Int) (oa : Option Addr) (l c : Nat) (Ln : Nat → Nat) (vD : Value), v = .agg #[.int .i64 n, .slice oa l c, .int .i64 m, .int .i64 a, vD, .int .i64 t] ∧ RowsIn w oa l Ln ∧ InDeps w vD
  ∧ (Lit.int .i64 m).wf = true ∧ (Lit.int .i64 a).wf = true ∧ (Lit.int .i64 t).wf = true
theorem open_search {H : Type} {enc : TypeId × Value → H} {W : World} {base : Nat} {held : Bool} {v : Value} {d : DataW H} {ps : List MemPlace} (hok : Value.okWide Try.prog W .any base 47 v)
    (h : DataW.Trod enc Try.prog W 0 (fun _ => true) held 47 v d ps) : InSr W v := by
  obtain ⟨cs, rfl, hsz⟩ := okWide_struct Try.underlying47 hok
  obtain ⟨l⟩ := cs
  have hC : Try.prog.cellsOf 47 = 6 := by kernel_rfl
  match l, hsz.trans hC with
  | [v0, v1, v2, v3, v4, v5], _ =>
    obtain ⟨fuel, hf⟩ := h
    obtain ⟨xs, n, _, hx, _, hlen, hg⟩ := DataW.trod_struct Try.underlying47 hf
    match xs, hlen with
    | [y0, y1, y2, y3, y4], _ =>
      have g0 := hg 0 _ rfl
      have g1 := hg 1 _ rfl
      have g2 := hg 2 _ rfl
      have g3 := hg 3 _ rfl
      have g4 := hg 4 _ rfl
      have ci : Try.prog.cellsOf 3 = 1 := by kernel_rfl
      have ct : Try.prog.cellsOf 36 = 2 := by kernel_rfl
      have cd : Try.prog.cellsOf 22 = 1 := by kernel_rfl
      simp [Value.cells, ci, ct, cd] at g0 g1 g2 g3 g4
      obtain ⟨zs, k, _, _, _, hzl, hz⟩ := DataW.trod_struct Try.underlying36 g0
      match zs, hzl with
      | [z0, z1], _ =>
        have q0 := hz 0 _ rfl
        have q1 := hz 1 _ rfl
        have cr : Try.prog.cellsOf 24 = 1 := by kernel_rfl
        simp [ci, cr] at q0 q1
        obtain ⟨i0, e0, _, w0⟩ := DataW.trod_int Try.underlying3 q0
        obtain ⟨i1, e1, _, w1⟩ := DataW.trod_int Try.underlying3 g1
        obtain ⟨i2, e2, _, w2⟩ := DataW.trod_int Try.underlying3 g2
        obtain ⟨i4, e4, _, w4⟩ := DataW.trod_int Try.underlying3 g4
        simp at e0 e1 e2 e4
        subst e0 e1 e2 e4
        obtain ⟨oa, lr, cr, Ln, rfl, hR⟩ := rows_of_trod q1
        exact ⟨_, _, _, _, _, _, _, _, _, rfl, hR, deps_of_trod g3, w1, w2, w4⟩
end Go.Proofs.Ytjbmpnbfiahdhaa
namespace Go.Proofs.Ytjbmpnbfiahdhaa
open Go.RowKit
set_option linter.unusedVariables false
set_option maxRecDepth 100000

theorem c_szIntSSg (oa) (n cap : Nat) (Ln : Nat → Nat) (left : Int) (hl0 : 0 ≤ left) (hl1 : left ≤ 1048576) (w : World) (h : RowsIn w oa n Ln) :
    Calls Try.prog 88 #[.slice oa n cap, .int .i64 left] w fun e w' => (∃ x : Int, e = .returned (.int .i64 x) ∧ (x = -1 ∨ (0 ≤ x ∧ x ≤ left ∧ (n : Int) + sumN Ln n + x = left))) ∧ Below w.heap.size w w' := by
  have hn := h.len
  unfold maxLen at hn
  by_cases hbig : left < n
  · go_enter Try.func88, Try.ntmps88
    go_wp2
    go_ret
    exact ⟨⟨_, rfl, .inl rfl⟩, Below.refl _ _⟩
  go_enter Try.func88, Try.ntmps88
  go_wp2
  go_loopw [1, 5] (fun l i wr => ∃ (x : Int) (k : Nat), l = .int .i64 x ∧ i = .int .i64 k ∧ k ≤ n ∧ 0 ≤ x ∧ x ≤ left ∧ x + (n : Int) + sumN Ln k = left ∧ Below w.heap.size w wr) (fun _ i _ => n - (intOf i).toNat)
  case atStart => exact ⟨_, 0, rfl, rfl, Nat.zero_le _, by omega, by omega, by simp [sumN], Below.refl _ _⟩
  case round =>
    obtain ⟨x, k, rfl, rfl, hk, hx0, hx1, hall, hb⟩ := hrel
    have HA : Hid (x + (n : Int) + sumN Ln k = left) := hall
    have HS : Hid (sumN Ln (k + 1) = sumN Ln k + Ln k) := sumN_succ Ln k
    clear hall
    have hx2 : x ≤ 1048576 := by omega
    by_cases hlt : k < n
    · obtain ⟨b, off, rfl, hbs, hc⟩ := h.rows (by omega)
      obtain ⟨hm, o, c, hc0, _⟩ := hc k hlt
      have hc1 := cell_keep hc0 hb
      clear hc hc0
      by_cases hle : (Ln k : Int) ≤ x
      · have e : (if (Ln k : Int) ≤ x then x - Ln k else -1) = x - Ln k := if_pos hle
        go_wp2_with fail
        refine (show Ans _ _ _ _ (.int .i64 (x - Ln k)) from e ▸ c_szIntS _ _ _ _ ⟨hx0, hx2⟩ hm _).mono ?_
        rintro en w1 ⟨rfl, hbn⟩
        replace hb := bel_to hb hbn
        clear hbn e
        go_wp2
        go_roundw
        case rel => exact ⟨x - Ln k, k + 1, rfl, by go_num, by omega, by omega, by omega, (by have h1 := HA.out; have h2 := HS.out; omega), hb⟩
        case measure => simp [intOf]; omega
      · have e : (if (Ln k : Int) ≤ x then x - Ln k else -1) = -1 := if_neg hle
        go_wp2_with fail
        refine (show Ans _ _ _ _ (.int .i64 (-1)) from e ▸ c_szIntS _ _ _ _ ⟨hx0, hx2⟩ hm _).mono ?_
        rintro en w1 ⟨rfl, hbn⟩
        replace hb := bel_to hb hbn
        clear hbn e
        go_wp2
        go_ret
        exact ⟨⟨_, rfl, .inl rfl⟩, hb⟩
    · have hkk : k = n := by omega
      have HK : Hid (k = n) := hkk
      clear hkk
      go_wp2
      go_ret
      exact ⟨⟨_, rfl, .inr ⟨hx0, by omega, (by have h1 := HA.out; have h2 := HK.out; rw [h2] at h1; omega)⟩⟩, hb⟩
theorem c_szTableg (n : Int) (oa) (l cap : Nat) (Ln : Nat → Nat) (left : Int) (hl0 : 0 ≤ left) (hl1 : left ≤ 1048576) (w : World) (h : RowsIn w oa l Ln) :
    Calls Try.prog 19 #[.agg #[.int .i64 n, .slice oa l cap], .int .i64 left] w fun e w' => (∃ x : Int, e = .returned (.int .i64 x) ∧ (x = -1 ∨ (0 ≤ x ∧ x ≤ left ∧ (l : Int) + sumN Ln l + x = left))) ∧ Below w.heap.size w w' := by
  have hb := (Below.refl w.heap.size w).alloc (Nat.le_refl _) (.cells #[.int .i64 n, .slice oa l cap] 36)
  go_enter Try.func19, Try.ntmps19
  go_wp2_with fail
  refine (c_szIntSSg _ _ _ _ left hl0 hl1 _ (h.keep hb)).mono ?_
  rintro e w1 ⟨⟨x, rfl, hx⟩, hbn⟩
  replace hb := bel_to hb hbn
  clear hbn
  rcases hx with rfl | ⟨h0, h1, h3⟩
  · go_wp2
    go_ret
    exact ⟨⟨_, rfl, .inl rfl⟩, hb⟩
  · have H3 : Hid ((l : Int) + sumN Ln l + x = left) := h3
    clear h3
    go_wp2
    go_ret
    exact ⟨⟨_, rfl, .inr ⟨h0, h1, H3.out⟩⟩, hb⟩
theorem c_szSearch (n m a t : Int) (oa) (l cap : Nat) (Ln : Nat → Nat) (od) (ld cd : Nat) (left : Int) (hl0 : 0 ≤ left) (hl1 : left ≤ 1048576) (w : World) (h : RowsIn w oa l Ln) (hmD : ld ≤ maxLen) :
    Calls Try.prog 26 #[.agg #[.int .i64 n, .slice oa l cap, .int .i64 m, .int .i64 a, .slice od ld cd, .int .i64 t], .int .i64 left] w fun e w' => (∃ x : Int, e = .returned (.int .i64 x) ∧ (x = -1 ∨ (0 ≤ x ∧ x ≤ left ∧ (l : Int) + sumN Ln l ≤ left ∧ (ld : Int) ≤ left))) ∧ Below w.heap.size w w' := by
  have hb := (Below.refl w.heap.size w).alloc (Nat.le_refl _) (.cells #[.int .i64 n, .slice oa l cap, .int .i64 m, .int .i64 a, .slice od ld cd, .int .i64 t] 47)
  have b4 := box_at w #[.int .i64 n, .slice oa l cap, .int .i64 m, .int .i64 a, .slice od ld cd, .int .i64 t] 47 4 _ rfl
  go_enter Try.func26, Try.ntmps26
  go_wp2_with fail
  refine (c_szTableg n _ _ _ _ left hl0 hl1 _ (h.keep hb)).mono ?_
  rintro e w1 ⟨⟨x, rfl, hx⟩, hbn⟩
  replace b4 := cell_keep b4 hbn
  replace hb := bel_to hb hbn
  clear hbn
  rcases hx with rfl | ⟨h0, h1, h3⟩
  · go_wp2
    go_ret
    exact ⟨⟨_, rfl, .inl rfl⟩, hb⟩
  · have H3 : Hid ((l : Int) + sumN Ln l + x = left) := h3
    clear h3
    have hx1 : x ≤ 1048576 := by omega
    by_cases big : x < (ld : Int)
    · go_wp2_with fail
      refine Calls.mono (c_szDepS_no _ _ _ _ ⟨h0, hx1⟩ big hmD _) ?_
      rintro e w2 ⟨rfl, hbn⟩
      replace hb := bel_to hb hbn
      clear hbn
      go_wp2
      go_ret
      exact ⟨⟨_, rfl, .inl rfl⟩, hb⟩
    · have hy0 : 0 ≤ x - (ld : Int) := by omega
      go_wp2_with fail
      refine Calls.mono (c_szDepS_ok _ _ _ _ hx1 (by omega) _) ?_
      rintro e w2 ⟨rfl, hbn⟩
      replace hb := bel_to hb hbn
      clear hbn
      go_wp2
      go_ret
      exact ⟨⟨_, rfl, .inr ⟨by omega, by omega, by have := H3.out; omega, by have := H3.out; omega⟩⟩, hb⟩
theorem c_eqSearch (A B : Sr) (oa ob fa fb) (ca cb fca fcb : Nat) (w : World) (hA : RowsAt w oa A.R) (hB : RowsAt w ob B.R) (hC : DepsAt w fa A.F) (hD : DepsAt w fb B.F) (e : A = B) :
    Ans Try.prog 23 #[.agg #[.int .i64 A.n, .slice oa A.R.length ca, .int .i64 A.m, .int .i64 A.a, .slice fa A.F.length fca, .int .i64 A.t], .agg #[.int .i64 B.n, .slice ob B.R.length cb, .int .i64 B.m, .int .i64 B.a, .slice fb B.F.length fcb, .int .i64 B.t]] w (.bool true) := by
  subst e
  unfold Ans
  have hb := bel2 w (.cells #[.int .i64 A.n, .slice oa A.R.length ca, .int .i64 A.m, .int .i64 A.a, .slice fa A.F.length fca, .int .i64 A.t] 39) (.cells #[.int .i64 A.n, .slice ob A.R.length cb, .int .i64 A.m, .int .i64 A.a, .slice fb A.F.length fcb, .int .i64 A.t] 39)
  have x2 := two_a w #[.int .i64 A.n, .slice oa A.R.length ca, .int .i64 A.m, .int .i64 A.a, .slice fa A.F.length fca, .int .i64 A.t] 39 #[.int .i64 A.n, .slice ob A.R.length cb, .int .i64 A.m, .int .i64 A.a, .slice fb A.F.length fcb, .int .i64 A.t] 39 2 _ rfl
  have x3 := two_a w #[.int .i64 A.n, .slice oa A.R.length ca, .int .i64 A.m, .int .i64 A.a, .slice fa A.F.length fca, .int .i64 A.t] 39 #[.int .i64 A.n, .slice ob A.R.length cb, .int .i64 A.m, .int .i64 A.a, .slice fb A.F.length fcb, .int .i64 A.t] 39 3 _ rfl
  have x4 := two_a w #[.int .i64 A.n, .slice oa A.R.length ca, .int .i64 A.m, .int .i64 A.a, .slice fa A.F.length fca, .int .i64 A.t] 39 #[.int .i64 A.n, .slice ob A.R.length cb, .int .i64 A.m, .int .i64 A.a, .slice fb A.F.length fcb, .int .i64 A.t] 39 4 _ rfl
  have x5 := two_a w #[.int .i64 A.n, .slice oa A.R.length ca, .int .i64 A.m, .int .i64 A.a, .slice fa A.F.length fca, .int .i64 A.t] 39 #[.int .i64 A.n, .slice ob A.R.length cb, .int .i64 A.m, .int .i64 A.a, .slice fb A.F.length fcb, .int .i64 A.t] 39 5 _ rfl
  have y2 := two_b w #[.int .i64 A.n, .slice oa A.R.length ca, .int .i64 A.m, .int .i64 A.a, .slice fa A.F.length fca, .int .i64 A.t] 39 #[.int .i64 A.n, .slice ob A.R.length cb, .int .i64 A.m, .int .i64 A.a, .slice fb A.F.length fcb, .int .i64 A.t] 39 2 _ rfl
  have y3 := two_b w #[.int .i64 A.n, .slice oa A.R.length ca, .int .i64 A.m, .int .i64 A.a, .slice fa A.F.length fca, .int .i64 A.t] 39 #[.int .i64 A.n, .slice ob A.R.length cb, .int .i64 A.m, .int .i64 A.a, .slice fb A.F.length fcb, .int .i64 A.t] 39 3 _ rfl
  have y4 := two_b w #[.int .i64 A.n, .slice oa A.R.length ca, .int .i64 A.m, .int .i64 A.a, .slice fa A.F.length fca, .int .i64 A.t] 39 #[.int .i64 A.n, .slice ob A.R.length cb, .int .i64 A.m, .int .i64 A.a, .slice fb A.F.length fcb, .int .i64 A.t] 39 4 _ rfl
  have y5 := two_b w #[.int .i64 A.n, .slice oa A.R.length ca, .int .i64 A.m, .int .i64 A.a, .slice fa A.F.length fca, .int .i64 A.t] 39 #[.int .i64 A.n, .slice ob A.R.length cb, .int .i64 A.m, .int .i64 A.a, .slice fb A.F.length fcb, .int .i64 A.t] 39 5 _ rfl
  have e1 : (A.m != A.m) = false := by simp
  have e2 : (A.a != A.a) = false := by simp
  have e3 : (A.t != A.t) = false := by simp
  go_enter Try.func23, Try.ntmps23
  go_wp2_with (first | (go_at_call 14; refine Calls.mono (c_eqTable _ _ _ _ _ _ _ (hA.keep hb) (hB.keep hb)) ?_; rintro e w1 ⟨rfl, hbn⟩; replace x2 := cell_keep x2 hbn; replace x3 := cell_keep x3 hbn; replace x4 := cell_keep x4 hbn; replace x5 := cell_keep x5 hbn; replace y2 := cell_keep y2 hbn; replace y3 := cell_keep y3 hbn; replace y4 := cell_keep y4 hbn; replace y5 := cell_keep y5 hbn; replace hb := bel_to (w := w) (by first | exact hb | exact hb.alloc hb.size _ | exact (hb.alloc hb.size _).alloc (Nat.le_trans hb.size (by simp)) _ | exact hb.setCell (by simp [hb.size]) _) hbn; clear hbn) | (go_at_call 15; refine Calls.mono (Ans.eqb (b' := true) (c_eqDepS _ _ _ _ _ _ _ (hC.keep hb) (hD.keep hb)) (by simp)) ?_; rintro e w1 ⟨rfl, hbn⟩; replace x2 := cell_keep x2 hbn; replace x3 := cell_keep x3 hbn; replace x4 := cell_keep x4 hbn; replace x5 := cell_keep x5 hbn; replace y2 := cell_keep y2 hbn; replace y3 := cell_keep y3 hbn; replace y4 := cell_keep y4 hbn; replace y5 := cell_keep y5 hbn; replace hb := bel_to (w := w) (by first | exact hb | exact hb.alloc hb.size _ | exact (hb.alloc hb.size _).alloc (Nat.le_trans hb.size (by simp)) _ | exact hb.setCell (by simp [hb.size]) _) hbn; clear hbn) | fail)
  go_ret
  exact ⟨rfl, hb⟩
def set8 (w : World) (g k : Nat) (a4 a5 b0 b1 b2 b3 b4 b5 : Value) : World := (((((((w.setCell ⟨g, 4, none⟩ a4).setCell ⟨g, 5, none⟩ a5).setCell ⟨k, 0, none⟩ b0).setCell ⟨k, 1, none⟩ b1).setCell ⟨k, 2, none⟩ b2).setCell ⟨k, 3, none⟩ b3).setCell ⟨k, 4, none⟩ b4).setCell ⟨k, 5, none⟩ b5
theorem far8 {w : World} {B : Nat} {v : Value} {xs : List Value} {R : List (List Int)} (h : OwnRows w B v xs R) {g k : Nat} (hg : g < B) (hk : k < B) (a4 a5 b0 b1 b2 b3 b4 b5 : Value) : OwnRows (set8 w g k a4 a5 b0 b1 b2 b3 b4 b5) B v xs R :=
  (((((((h.far_set 4 a4 hg).far_set 5 a5 hg).far_set 0 b0 hk).far_set 1 b1 hk).far_set 2 b2 hk).far_set 3 b3 hk).far_set 4 b4 hk).far_set 5 b5 hk
theorem OwnD.far_set {w : World} {B g : Nat} {v : Value} {D : List (Int × Int)} (h : OwnD w B v D) (j : Nat) (u : Value) (hg : g < B) : OwnD (w.setCell ⟨g, j, none⟩ u) B v D := ownsRow_setCell_below h (a := ⟨g, j, none⟩) hg u
theorem dar8 {w : World} {B : Nat} {v : Value} {D : List (Int × Int)} (h : OwnD w B v D) {g k : Nat} (hg : g < B) (hk : k < B) (a4 a5 b0 b1 b2 b3 b4 b5 : Value) : OwnD (set8 w g k a4 a5 b0 b1 b2 b3 b4 b5) B v D :=
  (((((((OwnD.far_set h 4 a4 hg).far_set 5 a5 hg).far_set 0 b0 hk).far_set 1 b1 hk).far_set 2 b2 hk).far_set 3 b3 hk).far_set 4 b4 hk).far_set 5 b5 hk
theorem bar8 {w0 w : World} {B : Nat} (h : Below B w0 w) {g k : Nat} (hg : B ≤ g) (hk : B ≤ k) (a4 a5 b0 b1 b2 b3 b4 b5 : Value) : Below B w0 (set8 w g k a4 a5 b0 b1 b2 b3 b4 b5) :=
  Below.setCell (p := ⟨k, 5, none⟩) (Below.setCell (p := ⟨k, 4, none⟩) (Below.setCell (p := ⟨k, 3, none⟩) (Below.setCell (p := ⟨k, 2, none⟩) (Below.setCell (p := ⟨k, 1, none⟩) (Below.setCell (p := ⟨k, 0, none⟩) (Below.setCell (p := ⟨g, 5, none⟩) (Below.setCell (p := ⟨g, 4, none⟩) h hg a4) hg a5) hk b0) hk b1) hk b2) hk b3) hk b4) hk b5
def srZ : Array Value := #[.int .i64 0, .slice none 0 0, .int .i64 0, .int .i64 0, .slice none 0 0, .int .i64 0]
set_option maxHeartbeats 1600000 in
theorem c_toSearch (A : Sr) (oa fa) (ca fca : Nat) (w : World) (hA : RowsAt w oa A.R) (hC : DepsAt w fa A.F) :
    Calls Try.prog 28 #[.agg #[.int .i64 A.n, .slice oa A.R.length ca, .int .i64 A.m, .int .i64 A.a, .slice fa A.F.length fca, .int .i64 A.t]] w fun e w' => ∃ o c fo fc xs, e = .returned (.agg #[.int .i64 A.n, .slice o A.R.length c, .int .i64 A.m, .int .i64 A.a, .slice fo A.F.length fc, .int .i64 A.t]) ∧ OwnRows w' w.heap.size (.slice o A.R.length c) xs A.R ∧ OwnD w' w.heap.size (.slice fo A.F.length fc) A.F ∧ ApartR (.slice o A.R.length c) xs (.slice fo A.F.length fc) ∧ Below w.heap.size w w' := by
  have hb0 := ((((Below.refl w.heap.size w).alloc (Nat.le_refl _) (.cells #[.int .i64 A.n, .slice oa A.R.length ca, .int .i64 A.m, .int .i64 A.a, .slice fa A.F.length fca, .int .i64 A.t] 47)).alloc (by simp) (.cells srZ 39)).alloc (by simp; omega) (.cells srZ 39))
  unfold srZ at hb0
  go_enter Try.func28, Try.ntmps28
  go_wp2_with fail
  refine (c_toTableO A.n _ _ A.R _ (hA.keep hb0)).mono ?_
  rintro e w1 ⟨o, c, xs, rfl, hN, hbn⟩
  have kA : Blk w1 w.heap.size #[.int .i64 A.n, .slice oa A.R.length ca, .int .i64 A.m, .int .i64 A.a, .slice fa A.F.length fca, .int .i64 A.t] 47 :=
    (((Blk.new w _ _).alloc _).alloc _).keep hbn
  have kR : Blk w1 (w.heap.size + 1) srZ 39 := by
    have := (Blk.new (w.alloc (.cells #[.int .i64 A.n, .slice oa A.R.length ca, .int .i64 A.m, .int .i64 A.a, .slice fa A.F.length fca, .int .i64 A.t] 47)) srZ 39).alloc (.cells srZ 39)
    simp only [World.size_alloc] at this
    exact this.keep hbn
  have kT : Blk w1 (w.heap.size + 1 + 1) srZ 39 := by
    have := Blk.new ((w.alloc (.cells #[.int .i64 A.n, .slice oa A.R.length ca, .int .i64 A.m, .int .i64 A.a, .slice fa A.F.length fca, .int .i64 A.t] 47)).alloc (.cells srZ 39)) srZ 39
    simp only [World.size_alloc] at this
    exact this.keep hbn
  have p2 := kA.cell 2 _ rfl
  have p3 := kA.cell 3 _ rfl
  have p4 := kA.cell 4 _ rfl
  have t0 := kT.cell 0 _ rfl
  have t1 := kT.cell 1 _ rfl
  have t2 := kT.cell 2 _ rfl
  have t3 := kT.cell 3 _ rfl
  have s0 := kT.free 0
  have s1 := kT.free 1
  have s2 := kT.free 2
  have s3 := kT.free 3
  have hb1 := bel_to hb0 hbn
  have hbD : Below w.heap.size w ((((w1.setCell ⟨w.heap.size + 1 + 1, 0, none⟩ (.int .i64 A.n)).setCell ⟨w.heap.size + 1 + 1, 1, none⟩ (.slice o A.R.length c)).setCell ⟨w.heap.size + 1 + 1, 2, none⟩ (.int .i64 A.m)).setCell ⟨w.heap.size + 1 + 1, 3, none⟩ (.int .i64 A.a)) :=
    Below.setCell (Below.setCell (Below.setCell (Below.setCell hb1 (by simp; omega) _) (by simp; omega) _) (by simp; omega) _) (by simp; omega) _
  have hN2 := (((hN.far_set (g := w.heap.size + 1 + 1) 0 (.int .i64 A.n) (by simp)).far_set (g := w.heap.size + 1 + 1) 1 (.slice o A.R.length c) (by simp)).far_set (g := w.heap.size + 1 + 1) 2 (.int .i64 A.m) (by simp)).far_set (g := w.heap.size + 1 + 1) 3 (.int .i64 A.a) (by simp)
  have kT2 := (((kT.set 0 (.int .i64 A.n)).set 1 (.slice o A.R.length c)).set 2 (.int .i64 A.m)).set 3 (.int .i64 A.a)
  have kR2 := (((kR.far ⟨w.heap.size + 1 + 1, 0, none⟩ (.int .i64 A.n) (by simp)).far ⟨w.heap.size + 1 + 1, 1, none⟩ (.slice o A.R.length c) (by simp)).far ⟨w.heap.size + 1 + 1, 2, none⟩ (.int .i64 A.m) (by simp)).far ⟨w.heap.size + 1 + 1, 3, none⟩ (.int .i64 A.a) (by simp)
  have kA2 := (((kA.far ⟨w.heap.size + 1 + 1, 0, none⟩ (.int .i64 A.n) (by simp; omega)).far ⟨w.heap.size + 1 + 1, 1, none⟩ (.slice o A.R.length c) (by simp; omega)).far ⟨w.heap.size + 1 + 1, 2, none⟩ (.int .i64 A.m) (by simp; omega)).far ⟨w.heap.size + 1 + 1, 3, none⟩ (.int .i64 A.a) (by simp; omega)
  clear hbn kA kR kT hN hb1
  go_wp2_with fail
  refine (c_toDepS _ _ _ _ (hC.keep hbD)).mono ?_
  rintro e w2 ⟨v2, rfl, hO, hbn⟩
  have ap := hN2.fresh hO
  obtain ⟨fo, fc, rfl⟩ := hO.shape
  have hbase : w.heap.size + 1 + 1 + 1 ≤ w1.heap.size := by have h9 := World.block_lt_of_cell? _ _ t0; simp at h9; omega
  replace hO := hO.based (show w.heap.size + 1 + 1 + 1 ≤ _ by simp; omega)
  have hN3 := hN2.keep hbn
  have kT3 := kT2.keep hbn
  have kR3 := kR2.keep hbn
  have kA3 := kA2.keep hbn
  have hb2 := bel_to hbD hbn
  clear hbn hN2 kT2 kR2 kA2 hbD p2 p3 p4 t0 t1 t2 t3 s0 s1 s2 s3
  have p5 := kA3.cell 5 (.int .i64 A.t) rfl
  have t0 := kT3.cell 0 (.int .i64 A.n) rfl
  have t1 := kT3.cell 1 (.slice o A.R.length c) rfl
  have t2 := kT3.cell 2 (.int .i64 A.m) rfl
  have t3 := kT3.cell 3 (.int .i64 A.a) rfl
  have t4 := kT3.cell 4 (.slice none 0 0) rfl
  have t5 := kT3.cell 5 (.int .i64 0) rfl
  have s4 := kT3.free 4
  have s5 := kT3.free 5
  have r0 := kR3.cell 0 (.int .i64 0) rfl
  have r1 := kR3.cell 1 (.slice none 0 0) rfl
  have r2 := kR3.cell 2 (.int .i64 0) rfl
  have r3 := kR3.cell 3 (.int .i64 0) rfl
  have r4 := kR3.cell 4 (.slice none 0 0) rfl
  have r5 := kR3.cell 5 (.int .i64 0) rfl
  have q0 := kR3.free 0
  have q1 := kR3.free 1
  have q2 := kR3.free 2
  have q3 := kR3.free 3
  have q4 := kR3.free 4
  have q5 := kR3.free 5
  clear kT3 kR3 kA3
  go_wp2
  have x1 := far8 hN3 (g := w.heap.size + 1 + 1) (k := w.heap.size + 1) (by simp) (by simp <;> omega) (.slice fo A.F.length fc) (.int .i64 A.t) (.int .i64 A.n) (.slice o A.R.length c) (.int .i64 A.m) (.int .i64 A.a) (.slice fo A.F.length fc) (.int .i64 A.t)
  have x2 := dar8 hO (g := w.heap.size + 1 + 1) (k := w.heap.size + 1) (by omega) (by omega) (.slice fo A.F.length fc) (.int .i64 A.t) (.int .i64 A.n) (.slice o A.R.length c) (.int .i64 A.m) (.int .i64 A.a) (.slice fo A.F.length fc) (.int .i64 A.t)
  have x3 := bar8 hb2 (g := w.heap.size + 1 + 1) (k := w.heap.size + 1) (by omega) (by omega) (.slice fo A.F.length fc) (.int .i64 A.t) (.int .i64 A.n) (.slice o A.R.length c) (.int .i64 A.m) (.int .i64 A.a) (.slice fo A.F.length fc) (.int .i64 A.t)
  exact bodyPost_ret (v := .agg #[.int .i64 A.n, .slice o A.R.length c, .int .i64 A.m, .int .i64 A.a, .slice fo A.F.length fc, .int .i64 A.t]) (by simp [results, Try.results28, go_sem, r0, r1, r2, r3, r4, r5]) rfl
    ⟨o, c, fo, fc, xs, rfl, x1.based (by simp <;> omega), x2.based (by omega), ap, x3⟩
end Go.Proofs.Ytjbmpnbfiahdhaa
namespace Go.Proofs.Ytjbmpnbfiahdhaa
open Go.RowKit
set_option linter.unusedVariables false
set_option maxRecDepth 100000
set_option maxHeartbeats 1600000

theorem step_append_own {P : Program} (w : World) {ops : Array Oper} {o : Oper} {a : Act} {K : Act → World → Prop} {Q : Exit → Act → World → Prop} {E : Prop} (hgd : o.guard = none) (s x : Operand) (t : TypeId)
    (ho : o.op = .call { callee := .builtin .append, args := #[s, x], argTypes := #[t, t] })
    (base : Nat) (e : TypeId) (i : TypeInfo) (z : Value) (size bytes : Nat) (ht : P.underlying t = some (.slice e)) (hi : P.info? e = some i) (hz : i.zero = some z)
    (hsize : i.size = size) (hby : i.bytes = bytes) (hzs : z.cells.size = size) (hsz : 0 < size)
    (v : Value) (n : Nat) (xs : List Value) (hs : a.eval s = v) (hown : w.ownsRow base e size v n xs)
    (ad : Addr) (m c : Nat) (news : List Value) (hx : a.eval x = .slice (some ad) m c) (hl : news.length = m * size) (hnews : ∀ j u, news[j]? = some u → w.cell? (ad.add j) = some u) (h1 : ∀ u ∈ news, u.oneCell' = true)
    (h63 : n + m ≤ maxLen) (hbytes : (n + m) * bytes ≤ 140737488355328) (hbase : base ≤ w.heap.size)
    (h : ∀ v' w', w'.ownsRow base e size v' (n + m) (xs ++ news) → w.grownBy w' v.ownBlock → K (a.put o.dst v') w') :
    if Region.wanted o (yielded ops a.tmps) = true then Oper.wp P o a w K Q else E := by
  have hw : Region.wanted o (yielded ops a.tmps) = true := by simp [Region.wanted, hgd]
  rw [if_pos hw]
  exact wp_append_own w s x t ho base e i z size bytes ht hi hz hsize hby hzs hsz v n xs hs hown ad m c news hx hl hnews h1 h63 hbytes hbase fun v' w' h2 h3 _ => h v' w' h2 h3

/-- An operation whose guard is shut, taken first. -/
theorem wpAnyH_skip {P : Program} {ops : Array Oper} {Q : Exit → Act → World → Prop} {md : Region.Mode} {S : World → Prop} {i : Nat} {oi : Oper} (d : Option Nat) {fuel : Nat} {listed : Array Bool} {a : Act} {w : World} (hi : ops[i]? = some oi) (hd : oi.dst = d)
    (hs : Region.noSelect ops = true) (hf : Region.free md ops listed i = true) (hr : (Region.ready md ops listed).contains i = true)
    (hQ : ∀ c a w, Q (.panic c) (a.put d undef) w → Q (.panic c) a w) (hy : Region.wanted oi (yielded ops a.tmps) = false) (hS : S w)
    (h : wpAnyH P md ops Q S fuel (listed.setIfInBounds i true) (a.put d undef) w) : wpAnyH P md ops Q S (fuel + 1) listed a w := by
  subst hd
  exact wpAnyH_take hi hs hf hr hQ (Or.inr ⟨hy, rfl⟩) hS h
/-- An operation that yields a value whatever the world, taken first. -/
theorem wpAnyH_val {P : Program} {ops : Array Oper} {Q : Exit → Act → World → Prop} {md : Region.Mode} {S : World → Prop} {i : Nat} {oi : Oper} (d : Option Nat) (v : Value) {fuel : Nat} {listed : Array Bool} {a : Act} {w : World} (hi : ops[i]? = some oi) (hd : oi.dst = d)
    (hs : Region.noSelect ops = true) (hf : Region.free md ops listed i = true) (hr : (Region.ready md ops listed).contains i = true)
    (hQ : ∀ c a w, Q (.panic c) (a.put d v) w → Q (.panic c) a w) (hw : Region.wanted oi (yielded ops a.tmps) = true) (hS : S w) (hy : ∀ w, S w → (execOp a.eval oi).run P w = .ok (.value v) w)
    (h : wpAnyH P md ops Q S fuel (listed.setIfInBounds i true) (a.put d v) w) : wpAnyH P md ops Q S (fuel + 1) listed a w := by
  subst hd
  exact wpAnyH_take hi hs hf hr hQ (Or.inl ⟨hw, hy⟩) hS h
theorem nl_take {D : List (Int × Int)} {i k : Nat} (h : k < i) : nl (D.take i) k = nl D k := by unfold nl; simp [List.getD, h]
theorem nr_take {D : List (Int × Int)} {i k : Nat} (h : k < i) : nr (D.take i) k = nr D k := by unfold nr; simp [List.getD, h]
theorem DepsAt.take {w : World} {oa : Option Addr} {D : List (Int × Int)} (h : DepsAt w oa D) (i : Nat) : DepsAt w oa (D.take i) := by
  refine ⟨by have := h.len; rw [List.length_take]; omega, fun h0 => ?_⟩
  rw [List.length_take] at h0
  obtain ⟨b, off, e, hlt, hc⟩ := h.at_ (by omega)
  refine ⟨b, off, e, hlt, fun k hk => ?_⟩
  rw [List.length_take] at hk
  rw [nl_take (by omega), nr_take (by omega)]
  exact hc k (by omega)
theorem c_copyTake (a : Addr) (cap i : Nat) (D : List (Int × Int)) (w : World) (hD : DepsAt w (some a) D) (hi : i ≤ D.length) :
    Calls Try.prog 165 #[.slice (some a) i cap] w fun e w' => ∃ v, e = .returned v ∧ OwnD w' w.heap.size v (D.take i) ∧ Below w.heap.size w w' := by
  have h := c_copyDeps (some a) cap (D.take i) w (hD.take i) (by intro h; cases h)
  rwa [List.length_take, Nat.min_eq_left hi] at h
theorem OwnD.row {w : World} {base : Nat} {v : Value} {i : Nat} {D : List (Int × Int)} (hi : i ≤ D.length) (h : OwnD w base v (D.take i)) : w.ownsRow base 55 2 v i (dcells (D.take i)) := by
  unfold OwnD at h; rwa [List.length_take, Nat.min_eq_left hi] at h

theorem no_news {w : World} {ad : Addr} : ∀ (j : Nat) (u : Value), ([] : List Value)[j]? = some u → w.cell? (ad.add j) = some u := by intro j u hj; cases hj
theorem no_one : ∀ u ∈ ([] : List Value), u.oneCell' = true := by intro u hu; cases hu
end Go.Proofs.Ytjbmpnbfiahdhaa
namespace Go.Proofs.Ytjbmpnbfiahdhaa
open Go.RowKit
set_option linter.unusedVariables false
set_option maxRecDepth 100000

def set6 (w : World) (k : Nat) (b0 b1 b2 b3 b4 b5 : Value) : World := (((((w.setCell ⟨k, 0, none⟩ b0).setCell ⟨k, 1, none⟩ b1).setCell ⟨k, 2, none⟩ b2).setCell ⟨k, 3, none⟩ b3).setCell ⟨k, 4, none⟩ b4).setCell ⟨k, 5, none⟩ b5
theorem OwnD.set_ne {w : World} {B g : Nat} {v : Value} {D : List (Int × Int)} (h : OwnD w B v D) (j : Nat) (u : Value) (hg : v.ownBlock ≠ some g) : OwnD (w.setCell ⟨g, j, none⟩ u) B v D := ownsRow_setCell_other h (a := ⟨g, j, none⟩) hg u
theorem OwnD.set6 {w : World} {B k : Nat} {v : Value} {D : List (Int × Int)} (h : OwnD w B v D) (hk : v.ownBlock ≠ some k) (b0 b1 b2 b3 b4 b5 : Value) : OwnD (set6 w k b0 b1 b2 b3 b4 b5) B v D :=
  (((((h.set_ne 0 b0 hk).set_ne 1 b1 hk).set_ne 2 b2 hk).set_ne 3 b3 hk).set_ne 4 b4 hk).set_ne 5 b5 hk
theorem bel_set6 {w0 w : World} {B : Nat} (h : Below B w0 w) {k : Nat} (hk : B ≤ k) (b0 b1 b2 b3 b4 b5 : Value) : Below B w0 (set6 w k b0 b1 b2 b3 b4 b5) :=
  Below.setCell (p := ⟨k, 5, none⟩) (Below.setCell (p := ⟨k, 4, none⟩) (Below.setCell (p := ⟨k, 3, none⟩) (Below.setCell (p := ⟨k, 2, none⟩) (Below.setCell (p := ⟨k, 1, none⟩) (Below.setCell (p := ⟨k, 0, none⟩) h hk b0) hk b1) hk b2) hk b3) hk b4) hk b5
theorem OwnD.nilcap {w : World} {B n c : Nat} {oa : Option Addr} {D : List (Int × Int)} (h : OwnD w B (.slice oa n c) D) : oa = none → c = 0 := by
  intro e
  subst e
  rcases h.2 with ⟨hv, _⟩ | ⟨g, c', cur, hv, _⟩
  · cases hv; rfl
  · cases hv
theorem OwnD.not_new {w : World} {B : Nat} {v : Value} {D : List (Int × Int)} (h : OwnD w B v D) {g : Nat} (hg : w.heap.size ≤ g) : v.ownBlock ≠ some g := fun e => by
  have := (World.ownsRow.lt h g e).2
  omega
theorem Fresh.self (w : World) (v : Value) : Fresh w v v := .inl rfl
theorem covS_take {F : List (Int × Int)} {x r : Int} {j : Nat} (hj : j < F.length) : covS (F.take (j + 1)) x r = (covS (F.take j) x r || ((nr F j == r) && ins (nl F j) x)) := by
  unfold covS
  rw [List.take_add_one, dnth_eq hj, List.any_append]; simp
theorem covS_at {F : List (Int × Int)} {x r : Int} {j : Nat} (hj : j < F.length) (h : ((nr F j == r) && ins (nl F j) x) = true) : covS F x r = true := List.any_eq_true.2 ⟨(nl F j, nr F j), List.mem_iff_getElem?.2 ⟨j, dnth_eq hj⟩, h⟩
theorem ask_cand {N k : Nat} {R : List (List Int)} {m : Int} (ht : isTabF N R = true) (hm : modeF m = true) (hk : k < N * 2 ^ N) : askF N R m (candF N k).1 (candF N k).2 = true := by
  obtain ⟨h1, h5, _, _⟩ := isTab_of ht
  obtain ⟨_, c1, c2, c3, c4⟩ := cand_ok (by omega) (by omega) hk
  unfold askF isDepF isAttr
  rw [ht, hm]
  simp only [Bool.and_self, Bool.true_and, Bool.and_eq_true, decide_eq_true_eq, Int.toNat_natCast]
  exact ⟨⟨⟨h1, ⟨⟨⟨by omega, h5⟩, c1.1⟩, c3⟩⟩, c2.1⟩, c4⟩
theorem Blk.grown {a b : World} {g : Nat} {c : Array Value} {T : TypeId} {row : Option Nat} (h : Blk a g c T) (hg : a.grownBy b row) (hne : some g ≠ row) : Blk b g c T := (hg.block g h.lt hne).trans h
theorem lit_keep {w w' : World} {n : Nat} {c : Array Value} {T : TypeId} (h : Below n (w.alloc (.cells c T)) w') (hn : n = w.heap.size + 1) : w'.heap[w.heap.size]? = some (.cells c T (0, 0)) := (h.block w.heap.size (by omega)).trans (heap_alloc_new w _)
theorem lit_keep_drew {w w' : World} {n : Nat} {c : Array Value} {T : TypeId} (h : Below n (w.alloc (.cells c T)).drew w') (hn : n = w.heap.size + 1) : w'.heap[w.heap.size]? = some (.cells c T (0, 0)) := (h.block w.heap.size (by omega)).trans (heap_alloc_new w _)
theorem own_snocD' {w : World} {base : Nat} {v : Value} {A : List (Int × Int)} {l r : Int} (h : w.ownsRow base 55 2 v (A.length + 1) (dcells A ++ [.int .i64 l, .int .i64 r])) : OwnD w base v (A ++ [(l, r)]) := OwnD.joined (B := [(l, r)]) h
theorem snoc_shape {w : World} {base : Nat} {v : Value} {A : List (Int × Int)} {d : Int × Int} (h : OwnD w base v (A ++ [d])) : ∃ o c, v = .slice o (A.length + 1) c := by
  obtain ⟨o, c, e⟩ := h.shape
  exact ⟨o, c, by rw [e]; simp⟩
set_option maxHeartbeats 3200000 in
theorem c_step (N k : Nat) (oa fo) (cap fc : Nat) (R : List (List Int)) (m t : Int) (F : List (Int × Int)) (B : Nat) (w : World) (hR : RowsAt w oa R) (ht : isTabF N R = true) (hm : modeF m = true) (hk : k < N * 2 ^ N)
    (hF : OwnD w B (.slice fo F.length fc) F) (hB : B ≤ w.heap.size) (hFl : F.length ≤ 160) (ht0 : 0 ≤ t) (ht1 : t ≤ 160) :
    Calls Try.prog 102 #[.agg #[.int .i64 N, .slice oa R.length cap, .int .i64 m, .int .i64 k, .slice fo F.length fc, .int .i64 t]] w fun e w' => ∃ fo' fc', e = .returned (.agg #[.int .i64 N, .slice oa R.length cap, .int .i64 m, .int .i64 ((k : Int) + 1), .slice fo' (stepF R m N k (F, t)).1.length fc', .int .i64 (stepF R m N k (F, t)).2]) ∧ OwnD w' B (.slice fo' (stepF R m N k (F, t)).1.length fc') (stepF R m N k (F, t)).1 ∧ Fresh w (.slice fo F.length fc) (.slice fo' (stepF R m N k (F, t)).1.length fc') ∧ Below w.heap.size w w' := by
  obtain ⟨i0, hi, hz0, hz1, hz2⟩ := info_parts info_dep
  obtain ⟨hn1, hn5, _, _⟩ := isTab_of ht
  have hN5 : N ≤ 5 := by omega
  have hN1 : 1 ≤ N := by omega
  have hk160 := count_le hN5
  obtain ⟨_, hst, hco, _, _⟩ := cand_ok hN5 hN1 hk
  have hask := ask_cand (R := R) (m := m) ht hm hk
  have HZ : Hid (stepF R m N k (F, t) = if hasc (candF N k).1 (candF N k).2 || covS F (candF N k).1 (candF N k).2 then (F, t) else (if holdsF R m (candF N k).1 (candF N k).2 then F ++ [((candF N k).1, (candF N k).2)] else F, t + 1)) := rfl
  have HCD : Hid (∀ w', Ans Try.prog 167 #[.int .i64 N, .int .i64 k] w' (.agg #[.int .i64 (candF N k).1, .int .i64 (candF N k).2])) := fun w' => c_candidate N k hN5 hN1 hk w'
  generalize hz : stepF R m N k (F, t) = z at *
  clear hz
  generalize (candF N k).1 = x at *
  generalize (candF N k).2 = r at *
  have hr64 : 0 ≤ r ∧ r < 64 := ⟨hco.1, by have := hco.2; omega⟩
  have hR0 := hR
  have hFn : (Value.slice fo F.length fc).ownBlock ≠ some w.heap.size ∧ (Value.slice fo F.length fc).ownBlock ≠ some (w.heap.size + 1) := ⟨hF.not_new (Nat.le_refl _), hF.not_new (Nat.le_succ _)⟩
  have HNC : Hid (fo = none → fc = 0) := hF.nilcap
  have HST : Hid (St x ∧ Co r) := ⟨hst, hco⟩
  have hb := bel2 w (.cells #[.int .i64 N, .slice oa R.length cap, .int .i64 m, .int .i64 k, .slice fo F.length fc, .int .i64 t] 39) (.cells srZ 39)
  have kS := (Blk.new w #[.int .i64 N, .slice oa R.length cap, .int .i64 m, .int .i64 k, .slice fo F.length fc, .int .i64 t] 39).alloc (.cells srZ 39)
  have kZ := Blk.new (w.alloc (.cells #[.int .i64 N, .slice oa R.length cap, .int .i64 m, .int .i64 k, .slice fo F.length fc, .int .i64 t] 39)) srZ 39
  simp only [World.size_alloc] at kZ
  have hF0 := hF.keep hb
  unfold srZ at hb kS kZ hF0
  have s0 := kS.cell 0 (.int .i64 N) rfl
  have s3 := kS.cell 3 (.int .i64 k) rfl
  clear hst hco ht hm hF
  go_enter Try.func102, Try.ntmps102
  go_wp2_with fail
  refine Calls.mono (HCD.out _) ?_
  rintro e w1 ⟨rfl, hbn⟩
  replace kS := kS.keep hbn
  replace kZ := kZ.keep hbn
  replace hF := hF0.keep hbn
  replace hb := bel_to hb hbn
  have hs1 : w.heap.size + 1 < w1.heap.size := kZ.lt
  clear hbn s0 s3 hF0
  have s3 := kS.cell 3 (.int .i64 k) rfl
  have kS1 := kS.alloc (.cells #[.int .i64 x, .int .i64 r] 55)
  have kZ1 := kZ.alloc (.cells #[.int .i64 x, .int .i64 r] 55)
  have kD1 := Blk.new w1 #[.int .i64 x, .int .i64 r] 55
  have hb1 := hb.alloc hb.size (.cells #[.int .i64 x, .int .i64 r] 55)
  have hF1 := hF.keep ((Below.refl w1.heap.size w1).alloc (Nat.le_refl _) (.cells #[.int .i64 x, .int .i64 r] 55))
  have hFd : (Value.slice fo F.length fc).ownBlock ≠ some w1.heap.size := hF.not_new (Nat.le_refl _)
  have s3' := kS1.cell 3 (.int .i64 k) rfl
  have f3' := kS1.free 3
  have kS2 : Blk _ w.heap.size #[.int .i64 N, .slice oa R.length cap, .int .i64 m, .int .i64 ((k : Int) + 1), .slice fo F.length fc, .int .i64 t] 39 := kS1.set 3 (.int .i64 ((k : Int) + 1))
  have kZ2 := kZ1.far ⟨w.heap.size, 3, none⟩ (.int .i64 ((k : Int) + 1)) (by simp)
  have kD2 := kD1.far ⟨w.heap.size, 3, none⟩ (.int .i64 ((k : Int) + 1)) (by simp; omega)
  have hb2 := Below.setCell (p := (⟨w.heap.size, 3, none⟩ : Addr)) hb1 (Nat.le_refl _) (.int .i64 ((k : Int) + 1))
  have hF2 := hF1.set_ne 3 (.int .i64 ((k : Int) + 1)) hFn.1
  have d0 := kD2.cell 0 (.int .i64 x) rfl
  have d1 := kD2.cell 1 (.int .i64 r) rfl
  have hs2 : w1.heap.size < ((w1.alloc (.cells #[.int .i64 x, .int .i64 r] 55)).setCell ⟨w.heap.size, 3, none⟩ (.int .i64 ((k : Int) + 1))).heap.size := by simp
  clear kS kZ hb kS1 kZ1 kD1 hb1 hF hF1
  go_wp2_with fail
  cases h1 : hasc x r
  · refine Calls.mono (Ans.eqb (c_has _ _ hr64 _) h1) ?_
    rintro e w3 ⟨rfl, hbn⟩
    replace kS2 := kS2.keep hbn
    replace kZ2 := kZ2.keep hbn
    replace kD2 := kD2.keep hbn
    replace hF2 := hF2.keep hbn
    replace hb2 := bel_to hb2 hbn
    clear hbn d0 d1 s3 s3' f3'
    have s4 := kS2.cell 4 (.slice fo F.length fc) rfl
    generalize hd9 : w1.heap.size = d at *
    have hsd : w.heap.size + 1 < d := hs1
    clear hd9 hs2 hs1
    have hFr : F.length ≤ Room := by unfold Room; omega
    go_wp2
    go_loopw [25] (fun i wr => ∃ j : Nat, i = .int .i64 j ∧ j ≤ F.length ∧ covS (F.take j) x r = false ∧ Blk wr w.heap.size #[.int .i64 N, .slice oa R.length cap, .int .i64 m, .int .i64 ((k : Int) + 1), .slice fo F.length fc, .int .i64 t] 39 ∧ Blk wr (w.heap.size + 1) srZ 39 ∧ Blk wr d #[.int .i64 x, .int .i64 r] 55 ∧ OwnD wr B (.slice fo F.length fc) F ∧ Below w.heap.size w wr) (fun i _ => F.length - (intOf i).toNat)
    case atStart => exact ⟨0, rfl, Nat.zero_le _, rfl, kS2, kZ2, kD2, hF2, hb2⟩
    case round =>
      clear kS2 kZ2 kD2 hF2 hb2 s4
      obtain ⟨j, rfl, hj, hcov, kS, kZ, kD, hF, hb⟩ := hrel
      have HC : Hid (covS (F.take j) x r = false) := hcov
      clear hcov
      by_cases hlt : j < F.length
      · obtain ⟨b, off, rfl, hbs, hc⟩ := (hF.deps rfl hFr).at_ (by omega)
        have hc1 := (hc j hlt).1
        have hc2 := (hc j hlt).2
        have HT : Hid (covS (F.take (j + 1)) x r = (covS (F.take j) x r || ((nr F j == r) && ins (nl F j) x))) := covS_take hlt
        have HA : Hid (((nr F j == r) && ins (nl F j) x) = true → covS F x r = true) := covS_at hlt
        clear hc
        generalize nl F j = a at *
        generalize nr F j = q at *
        have hba := (Below.refl wr.heap.size wr).alloc (Nat.le_refl _) (.cells #[.int .i64 a, .int .i64 q] 55)
        replace kS := kS.keep hba
        replace kZ := kZ.keep hba
        replace kD := kD.keep hba
        replace hF := hF.keep hba
        replace hb := bel_to hb hba
        have g0 := box_at wr #[.int .i64 a, .int .i64 q] 55 0 _ rfl
        have g1 := box_at wr #[.int .i64 a, .int .i64 q] 55 1 _ rfl
        have d0 := kD.cell 0 (.int .i64 x) rfl
        have d1 := kD.cell 1 (.int .i64 r) rfl
        clear hba
        cases hq : (q == r)
        · go_wp2
          go_roundw
          case rel => exact ⟨j + 1, by go_num, by omega, by rw [HT.out, HC.out, hq]; rfl, kS, kZ, kD, hF, hb⟩
          case measure => simp [intOf]; omega
        · cases hi3 : ins a x
          · go_wp2_with fail
            refine Calls.mono (Ans.eqb (c_inside _ _ _) hi3) ?_
            rintro e w4 ⟨rfl, hbn⟩
            replace kS := kS.keep hbn
            replace kZ := kZ.keep hbn
            replace kD := kD.keep hbn
            replace hF := hF.keep hbn
            replace hb := bel_to hb hbn
            clear hbn g0 g1 d0 d1
            go_wp2
            go_roundw
            case rel => exact ⟨j + 1, by go_num, by omega, by rw [HT.out, HC.out, hq, hi3]; rfl, kS, kZ, kD, hF, hb⟩
            case measure => simp [intOf]; omega
          · have HV : Hid (z = (F, t)) := by show z = (F, t); rw [HZ.out, h1, HA.out (by rw [hq, hi3]; rfl)]; rfl
            go_wp2_with fail
            refine Calls.mono (Ans.eqb (c_inside _ _ _) hi3) ?_
            rintro e w4 ⟨rfl, hbn⟩
            replace kS := kS.keep hbn
            replace kZ := kZ.keep hbn
            replace hF := hF.keep hbn
            replace hb := bel_to hb hbn
            clear hbn g0 g1 d0 d1 kD
            have s0 := kS.cell 0 (.int .i64 N) rfl
            have s1 := kS.cell 1 (.slice oa R.length cap) rfl
            have s2 := kS.cell 2 (.int .i64 m) rfl
            have s3 := kS.cell 3 (.int .i64 ((k : Int) + 1)) rfl
            have s4 := kS.cell 4 (.slice (some ⟨b, off, none⟩) F.length fc) rfl
            have s5 := kS.cell 5 (.int .i64 t) rfl
            have z0 := kZ.cell 0 (.int .i64 0) rfl
            have z1 := kZ.cell 1 (.slice none 0 0) rfl
            have z2 := kZ.cell 2 (.int .i64 0) rfl
            have z3 := kZ.cell 3 (.int .i64 0) rfl
            have z4 := kZ.cell 4 (.slice none 0 0) rfl
            have z5 := kZ.cell 5 (.int .i64 0) rfl
            have f0 := kZ.free 0
            have f1 := kZ.free 1
            have f2 := kZ.free 2
            have f3 := kZ.free 3
            have f4 := kZ.free 4
            have f5 := kZ.free 5
            go_wp2
            refine bodyPost_ret (v := .agg #[.int .i64 N, .slice oa R.length cap, .int .i64 m, .int .i64 ((k : Int) + 1), .slice (some ⟨b, off, none⟩) F.length fc, .int .i64 t]) (by simp [results, Try.results102, go_sem, z0, z1, z2, z3, z4, z5]) rfl ?_
            rw [HV.out]
            exact ⟨_, fc, rfl, OwnD.set6 hF hFn.2 _ _ _ _ _ _, Fresh.self _ _, bel_set6 hb (Nat.le_succ _) _ _ _ _ _ _⟩
      · have hjj : j = F.length := by omega
        have HCF : Hid (covS F x r = false) := by have h := HC.out; rw [hjj, List.take_length] at h; exact h
        clear hjj
        have s5 := kS.cell 5 (.int .i64 t) rfl
        have f5 := kS.free 5
        have kS2 : Blk _ w.heap.size #[.int .i64 N, .slice oa R.length cap, .int .i64 m, .int .i64 ((k : Int) + 1), .slice fo F.length fc, .int .i64 (t + 1)] 39 := kS.set 5 (.int .i64 (t + 1))
        have kZ2 := kZ.far ⟨w.heap.size, 5, none⟩ (.int .i64 (t + 1)) (by simp)
        have kD2 := kD.far ⟨w.heap.size, 5, none⟩ (.int .i64 (t + 1)) (by simp; omega)
        have hb2 := Below.setCell (p := (⟨w.heap.size, 5, none⟩ : Addr)) hb (Nat.le_refl _) (.int .i64 (t + 1))
        have hF2 := hF.set_ne 5 (.int .i64 (t + 1)) hFn.1
        have s0 := kS2.cell 0 (.int .i64 N) rfl
        have s1 := kS2.cell 1 (.slice oa R.length cap) rfl
        have s2 := kS2.cell 2 (.int .i64 m) rfl
        have d0 := kD2.cell 0 (.int .i64 x) rfl
        have d1 := kD2.cell 1 (.int .i64 r) rfl
        clear kS kZ kD hb hF
        go_wp2_with fail
        cases h2 : holdsF R m x r
        · have HV : Hid (z = (F, t + 1)) := by show z = (F, t + 1); rw [HZ.out, h1, HCF.out, h2]; rfl
          refine Calls.mono (Ans.eqb (b' := false) (c_HoldsDep N oa cap R m x r _ (hR0.keep hb2)) (by rw [h2]; simp)) ?_
          rintro e w5 ⟨rfl, hbn⟩
          replace kS2 := kS2.keep hbn
          replace kZ2 := kZ2.keep hbn
          replace hF2 := hF2.keep hbn
          replace hb2 := bel_to hb2 hbn
          clear hbn d0 d1 s0 s1 s2 s5 f5 kD2
          have s0 := kS2.cell 0 (.int .i64 N) rfl
          have s1 := kS2.cell 1 (.slice oa R.length cap) rfl
          have s2 := kS2.cell 2 (.int .i64 m) rfl
          have s3 := kS2.cell 3 (.int .i64 ((k : Int) + 1)) rfl
          have s4 := kS2.cell 4 (.slice fo F.length fc) rfl
          have s5 := kS2.cell 5 (.int .i64 (t + 1)) rfl
          have z0 := kZ2.cell 0 (.int .i64 0) rfl
          have z1 := kZ2.cell 1 (.slice none 0 0) rfl
          have z2 := kZ2.cell 2 (.int .i64 0) rfl
          have z3 := kZ2.cell 3 (.int .i64 0) rfl
          have z4 := kZ2.cell 4 (.slice none 0 0) rfl
          have z5 := kZ2.cell 5 (.int .i64 0) rfl
          have f0 := kZ2.free 0
          have f1 := kZ2.free 1
          have f2 := kZ2.free 2
          have f3 := kZ2.free 3
          have f4 := kZ2.free 4
          have f5 := kZ2.free 5
          go_wp2
          refine bodyPost_ret (v := .agg #[.int .i64 N, .slice oa R.length cap, .int .i64 m, .int .i64 ((k : Int) + 1), .slice fo F.length fc, .int .i64 (t + 1)]) (by simp [results, Try.results102, go_sem, z0, z1, z2, z3, z4, z5]) rfl ?_
          rw [HV.out]
          exact ⟨fo, fc, rfl, OwnD.set6 hF2 hFn.2 _ _ _ _ _ _, Fresh.self _ _, bel_set6 hb2 (Nat.le_succ _) _ _ _ _ _ _⟩
        · have HV : Hid (z = (F ++ [(x, r)], t + 1)) := by show z = _; rw [HZ.out, h1, HCF.out, h2]; rfl
          refine Calls.mono (Ans.eqb (b' := true) (c_HoldsDep N oa cap R m x r _ (hR0.keep hb2)) (by rw [h2, hask]; rfl)) ?_
          rintro e w5 ⟨rfl, hbn⟩
          replace kS2 := kS2.keep hbn
          replace kZ2 := kZ2.keep hbn
          replace kD2 := kD2.keep hbn
          replace hF2 := hF2.keep hbn
          replace hb2 := bel_to hb2 hbn
          clear hbn d0 d1 s0 s1 s2 s5 f5
          have s4 := kS2.cell 4 (.slice fo F.length fc) rfl
          have f4 := kS2.free 4
          have d0 := kD2.cell 0 (.int .i64 x) rfl
          have d1 := kD2.cell 1 (.int .i64 r) rfl
          have s4b : (w5.alloc (.cells #[.int .i64 x, .int .i64 r] 55)).drew.cell? ⟨w.heap.size, 4, none⟩ = some (.slice fo F.length fc) := (kS2.alloc _).cell 4 _ rfl
          have hbase : B ≤ w5.heap.size := Nat.le_trans hB hb2.size
          have h63 : F.length + 1 ≤ maxLen := by unfold maxLen; omega
          have h64 : (F.length + 1) * 16 ≤ 140737488355328 := by omega
          go_wp2_with fail
          go_region_law (first
            | (go_simp; refine (c_copyDeps fo fc F _ ((hF2.keep (by first | exact (Below.refl _ _).drew | exact (Below.refl _ _).drew.alloc (Nat.le_refl _) _)).deps rfl hFr) HNC.out).mono ?_; rintro e w6 ⟨v6, rfl, hO, hbn⟩; have hb56 := bel_to (w := w5) (by first | exact (Below.refl _ _).drew | exact (Below.refl _ _).drew.alloc (Nat.le_refl _) _) hbn; replace hO := hO.based (show w5.heap.size ≤ _ by simp); have kS6 := kS2.keep hb56; have kZ6 := kZ2.keep hb56; have kD6 := kD2.keep hb56; have hb6 := bel_to hb2 hb56; have d0 := kD6.cell 0 (.int .i64 x) rfl; have d1 := kD6.cell 1 (.int .i64 r) rfl)
            | (refine step_append_own _ (by rfl) _ _ 29 (by rfl) w5.heap.size 55 i0 (.agg #[.int .i64 0, .int .i64 0]) 2 16 Try.underlying29 hi hz0 hz1 hz2 rfl (by decide) v6 _ _ (by rfl) (World.ownsRow.alloc hO _) _ 1 1 [.int .i64 x, .int .i64 r] (by rfl) rfl (World.news_of_block (cs := #[.int .i64 x, .int .i64 r]) (t := 55) (fr := (0, 0)) (heap_alloc_new _ _)) (by intro u hu; simp at hu; rcases hu with rfl | rfl <;> rfl) (show _ from h63) (show _ from h64) (by have := hb56.size; simp; omega) ?_; intro v7 w7 hown hgrow; have hne9 := fun (g : Nat) (hg : g < w5.heap.size) => (show some g ≠ v6.ownBlock from fun e => by have := (World.ownsRow.lt hO g e.symm).1; omega); have kS7 := (kS6.alloc _).grown hgrow (hne9 _ kS2.lt); have kZ7 := (kZ6.alloc _).grown hgrow (hne9 _ kZ2.lt); have hb7 := (hb6.alloc hb6.size _).grown hgrow (by have := hb6.size; simp; omega) (fun g hg => Nat.le_trans hb2.size (World.ownsRow.lt hO g hg).1); have hO7 := own_snocD' hown; clear hown hgrow; obtain ⟨o7, c7, rfl⟩ := snoc_shape hO7; have s4 := kS7.cell 4 (.slice fo F.length fc) rfl; have f4 := kS7.free 4)
            | (refine step_append_own _ (by rfl) _ _ 29 (by rfl) w5.heap.size 55 i0 (.agg #[.int .i64 0, .int .i64 0]) 2 16 Try.underlying29 hi hz0 hz1 hz2 rfl (by decide) v6 _ _ (by rfl) hO _ 1 1 [.int .i64 x, .int .i64 r] (by rfl) rfl (World.news_of_block (cs := #[.int .i64 x, .int .i64 r]) (t := 55) (fr := (0, 0)) (lit_keep_drew hbn (by simp))) (by intro u hu; simp at hu; rcases hu with rfl | rfl <;> rfl) (show _ from h63) (show _ from h64) hb56.size ?_; intro v7 w7 hown hgrow; have hne9 := fun (g : Nat) (hg : g < w5.heap.size) => (show some g ≠ v6.ownBlock from fun e => by have := (World.ownsRow.lt hO g e.symm).1; omega); have kS7 := (kS6).grown hgrow (hne9 _ kS2.lt); have kZ7 := (kZ6).grown hgrow (hne9 _ kZ2.lt); have hb7 := (hb6).grown hgrow (by have := hb6.size; simp; omega) (fun g hg => Nat.le_trans hb2.size (World.ownsRow.lt hO g hg).1); have hO7 := own_snocD' hown; clear hown hgrow; obtain ⟨o7, c7, rfl⟩ := snoc_shape hO7; have s4 := kS7.cell 4 (.slice fo F.length fc) rfl; have f4 := kS7.free 4)
            | fail)
          all_goals
            have kS8 : Blk _ w.heap.size #[.int .i64 N, .slice oa R.length cap, .int .i64 m, .int .i64 ((k : Int) + 1), .slice o7 (F.length + 1) c7, .int .i64 (t + 1)] 39 := kS7.set 4 (.slice o7 (F.length + 1) c7)
            have kZ8 := kZ7.far ⟨w.heap.size, 4, none⟩ (.slice o7 (F.length + 1) c7) (by simp)
            have hb8 := Below.setCell (p := (⟨w.heap.size, 4, none⟩ : Addr)) hb7 (Nat.le_refl _) (.slice o7 (F.length + 1) c7)
            have hn7 : ∀ g, g < w5.heap.size → (Value.slice o7 (F.length + 1) c7).ownBlock ≠ some g := fun g hg e => by have := (World.ownsRow.lt hO7 g e).1; omega
            have hs5 := kS2.lt
            have hz5 := kZ2.lt
            have hO8 := hO7.set_ne 4 (.slice o7 (F.length + 1) c7) (hn7 _ hs5)
            have s0 := kS8.cell 0 (.int .i64 N) rfl
            have s1 := kS8.cell 1 (.slice oa R.length cap) rfl
            have s2 := kS8.cell 2 (.int .i64 m) rfl
            have s3 := kS8.cell 3 (.int .i64 ((k : Int) + 1)) rfl
            have s4 := kS8.cell 4 (.slice o7 (F.length + 1) c7) rfl
            have s5 := kS8.cell 5 (.int .i64 (t + 1)) rfl
            have z0 := kZ8.cell 0 (.int .i64 0) rfl
            have z1 := kZ8.cell 1 (.slice none 0 0) rfl
            have z2 := kZ8.cell 2 (.int .i64 0) rfl
            have z3 := kZ8.cell 3 (.int .i64 0) rfl
            have z4 := kZ8.cell 4 (.slice none 0 0) rfl
            have z5 := kZ8.cell 5 (.int .i64 0) rfl
            have f0 := kZ8.free 0
            have f1 := kZ8.free 1
            have f2 := kZ8.free 2
            have f3 := kZ8.free 3
            have f4 := kZ8.free 4
            have f5 := kZ8.free 5
            go_wp2
            refine bodyPost_ret (v := .agg #[.int .i64 N, .slice oa R.length cap, .int .i64 m, .int .i64 ((k : Int) + 1), .slice o7 (F.length + 1) c7, .int .i64 (t + 1)]) (by simp [results, Try.results102, go_sem, z0, z1, z2, z3, z4, z5]) rfl ?_
            rw [HV.out]
            have hl9 : (F ++ [(x, r)]).length = F.length + 1 := by simp
            refine ⟨o7, c7, ?_, ?_, ?_, bel_set6 hb8 (Nat.le_succ _) _ _ _ _ _ _⟩
            · show Ending.returned _ = Ending.returned (.agg #[.int .i64 N, .slice oa R.length cap, .int .i64 m, .int .i64 ((k : Int) + 1), .slice o7 (F ++ [(x, r)]).length c7, .int .i64 (t + 1)])
              rw [hl9]
            · show OwnD _ B (.slice o7 (F ++ [(x, r)]).length c7) (F ++ [(x, r)])
              rw [hl9]
              exact OwnD.set6 (hO8.based hbase) (hn7 _ hz5) _ _ _ _ _ _
            · show Fresh w _ (.slice o7 (F ++ [(x, r)]).length c7)
              rw [hl9]
              exact .inr (fun g hg => Nat.le_trans hb2.size (World.ownsRow.lt hO7 g hg).1)
  · refine Calls.mono (Ans.eqb (c_has _ _ hr64 _) h1) ?_
    rintro e w3 ⟨rfl, hbn⟩
    replace kS2 := kS2.keep hbn
    replace kZ2 := kZ2.keep hbn
    replace hF2 := hF2.keep hbn
    replace hb2 := bel_to hb2 hbn
    have HV : Hid (z = (F, t)) := by show z = (F, t); rw [HZ.out, h1]; rfl
    clear hbn d0 d1 s3 s3' f3' kD2
    have s0 := kS2.cell 0 (.int .i64 N) rfl
    have s1 := kS2.cell 1 (.slice oa R.length cap) rfl
    have s2 := kS2.cell 2 (.int .i64 m) rfl
    have s3 := kS2.cell 3 (.int .i64 ((k : Int) + 1)) rfl
    have s4 := kS2.cell 4 (.slice fo F.length fc) rfl
    have s5 := kS2.cell 5 (.int .i64 t) rfl
    have z0 := kZ2.cell 0 (.int .i64 0) rfl
    have z1 := kZ2.cell 1 (.slice none 0 0) rfl
    have z2 := kZ2.cell 2 (.int .i64 0) rfl
    have z3 := kZ2.cell 3 (.int .i64 0) rfl
    have z4 := kZ2.cell 4 (.slice none 0 0) rfl
    have z5 := kZ2.cell 5 (.int .i64 0) rfl
    have f0 := kZ2.free 0
    have f1 := kZ2.free 1
    have f2 := kZ2.free 2
    have f3 := kZ2.free 3
    have f4 := kZ2.free 4
    have f5 := kZ2.free 5
    go_wp2
    refine bodyPost_ret (v := .agg #[.int .i64 N, .slice oa R.length cap, .int .i64 m, .int .i64 ((k : Int) + 1), .slice fo F.length fc, .int .i64 t]) (by simp [results, Try.results102, go_sem, z0, z1, z2, z3, z4, z5]) rfl ?_
    rw [HV.out]
    exact ⟨fo, fc, rfl, OwnD.set6 hF2 hFn.2 _ _ _ _ _ _, Fresh.self _ _, bel_set6 hb2 (Nat.le_succ _) _ _ _ _ _ _⟩
end Go.Proofs.Ytjbmpnbfiahdhaa
namespace Go.Proofs.Ytjbmpnbfiahdhaa
open Go.RowKit
set_option linter.unusedVariables false
set_option maxRecDepth 100000

def rowForF (N : Nat) (x v : Int) : List Int := (List.range N).map fun (c : Nat) => if hasc x c then 0 else v
theorem rowFor_len (N : Nat) (x v : Int) : (rowForF N x v).length = N := by simp [rowForF]
theorem rowFor_nth {N : Nat} {x v : Int} {j : Nat} (h : j < N) : nth (rowForF N x v) j = if hasc x j then 0 else v := by simp [nth, rowForF, List.getD, h]
set_option maxHeartbeats 800000 in
theorem c_rowFor (N : Nat) (hN : N ≤ 5) (x v : Int) (w : World) :
    Calls Try.prog 83 #[.int .i64 N, .int .i64 x, .int .i64 v] w fun e w' => ∃ o c, e = .returned (.slice o N c) ∧ OwnI w' w.heap.size (.slice o N c) (rowForF N x v) ∧ Below w.heap.size w w' := by
  obtain ⟨i0, hi, hz0, hz1, hz2⟩ := info_parts info_int
  go_enter Try.func83, Try.ntmps83
  go_wp2_with (first | (at_make; refine wpList_make_full _ rfl _ _ 68 rfl w.heap.size 3 i0 (.int .i64 0) 1 Try.underlying68 hi hz0 hz1 .i64 .i64 _ _ N rfl rfl rfl rfl (by rw [hz2]; omega) (by unfold maxLen; omega) (Nat.le_refl _) ?_; intro w1 hown hgrow))
  have hI := ownI_made hown
  have hb1 : Below w.heap.size w w1 := below_grown hgrow (Nat.le_refl _) (by simp)
  clear hown hgrow hi hz0 hz1 hz2 i0
  go_loopw [13] (fun i wr => ∃ (k : Nat) (L : List Int), i = .int .i64 k ∧ k ≤ N ∧ L.length = N ∧ (∀ j, j < k → nth L j = if hasc x j then 0 else v) ∧ (∀ j, k ≤ j → j < N → nth L j = 0) ∧ OwnI wr w.heap.size (.slice (some ⟨w.heap.size, 0, none⟩) N N) L ∧ Below w.heap.size w wr) (fun i _ => N - (intOf i).toNat)
  case atStart => exact ⟨0, List.replicate N 0, rfl, Nat.zero_le _, by simp, fun j hj => absurd hj (by omega), fun j _ hj => by simp [nth, List.getD, hj], hI, hb1⟩
  case round =>
    clear hI hb1
    obtain ⟨k, L, rfl, hk, hL, hlo, hhi, hI, hb⟩ := hrel
    have HL : Hid (L.length = N) := hL
    have HLo : Hid (∀ j, j < k → nth L j = if hasc x j then 0 else v) := hlo
    have HHi : Hid (∀ j, k ≤ j → j < N → nth L j = 0) := hhi
    clear hL hlo hhi
    by_cases hlt : k < N
    · have hk64 : 0 ≤ (k : Int) ∧ (k : Int) < 64 := by omega
      cases h1 : hasc x (k : Int)
      · go_wp2_with fail
        refine Calls.mono (Ans.eqb (c_has _ _ hk64 _) h1) ?_
        rintro e w2 ⟨rfl, hbn⟩
        replace hI := hI.keep hbn
        replace hb := bel_to hb hbn
        obtain ⟨hg1, hg2⟩ := hI.cell HL.out.symm k hlt
        have HI2 := (show Hid _ from hI.store HL.out.symm k v)
        have HB2 := (show Hid _ from Below.setCell (p := (⟨w.heap.size, k, none⟩ : Addr)) hb (Nat.le_refl _) (.int .i64 v))
        clear hI hb hbn
        go_wp2
        go_roundw
        case rel =>
          refine ⟨k + 1, L.set k v, by go_num, by omega, by rw [List.length_set]; exact HL.out, lt_step (fun j hj => ?_) ?_, fun j hj1 hj2 => ?_, HI2.out, HB2.out⟩
          · rw [nth_set (by have := HL.out; omega), if_neg (by omega)]; exact HLo.out j hj
          · rw [nth_set (by have := HL.out; omega), if_pos rfl, h1]; rfl
          · rw [nth_set (by have := HL.out; omega), if_neg (by omega)]; exact HHi.out j (by omega) hj2
        case measure => simp [intOf]; omega
      · go_wp2_with fail
        refine Calls.mono (Ans.eqb (c_has _ _ hk64 _) h1) ?_
        rintro e w2 ⟨rfl, hbn⟩
        replace hI := hI.keep hbn
        replace hb := bel_to hb hbn
        clear hbn
        go_wp2
        go_roundw
        case rel => exact ⟨k + 1, L, by go_num, by omega, HL.out, lt_step HLo.out (by rw [HHi.out k (Nat.le_refl _) hlt, h1]; rfl), fun j hj1 hj2 => HHi.out j (by omega) hj2, hI, hb⟩
        case measure => simp [intOf]; omega
    · have hkk : k = N := by omega
      have HE : Hid (L = rowForF N x v) := list_ext (by rw [rowFor_len]; exact HL.out) fun j hj => by
        have h := HL.out
        rw [rowFor_nth (by omega)]
        exact HLo.out j (by omega)
      clear hkk
      go_wp2
      go_ret
      exact ⟨_, _, rfl, by rw [← HE.out]; exact hI, hb⟩
theorem madeI (N : Nat) : (madeCells (Value.cells (.int .i64 0)) (N * 1)).toList = (List.replicate N (0 : Int)).map encI := by
  rw [Nat.mul_one]
  have : (Value.cells (.int .i64 0)) = #[Value.int .i64 0] := rfl
  rw [this, toList_madeCells_one, List.map_replicate]; rfl
theorem apart_lit {v : Value} {g n c : Nat} (h : v.ownBlock ≠ some g) : Apart (.slice (some ⟨g, 0, none⟩) n c) v := Or.inr fun e => h e.symm
/-- Two rows of the call's own, in a slice of their own. -/
theorem two_rows {w : World} {B g : Nat} {oA oB : Option Addr} {n cA cB : Nat} {L M : List Int} (hA : OwnI w B (.slice oA n cA) L) (hB : OwnI w B (.slice oB n cB) M) (hl : L.length = n) (hm : M.length = n) (hap : Apart (.slice oA n cA) (.slice oB n cB))
    (hO : w.ownsRow B 68 1 (.slice (some ⟨g, 0, none⟩) 2 2) 2 [.slice oA n cA, .slice oB n cB]) (hgA : (Value.slice oA n cA).ownBlock ≠ some g) (hgB : (Value.slice oB n cB).ownBlock ≠ some g) : OwnRows w B (.slice (some ⟨g, 0, none⟩) 2 2) [.slice oA n cA, .slice oB n cB] [L, M] := by
  subst hl
  refine ⟨rfl, hO, fun j hj => ?_, fun i j hij hj u u' hu hu' => ?_⟩
  · match j, hj with
    | 0, _ => exact ⟨oA, cA, rfl, hA, apart_lit hgA⟩
    | 1, _ =>
      have e : row [L, M] 1 = M := rfl
      rw [e, hm]
      exact ⟨oB, cB, rfl, hB, apart_lit hgB⟩
  · match i, j, hij, hj with
    | 0, 1, _, _ => simp at hu hu'; subst hu hu'; exact hap
    | 0, 0, h, _ => omega
    | 1, 1, h, _ => omega
    | 1, 0, h, _ => omega
end Go.Proofs.Ytjbmpnbfiahdhaa
namespace Go.Proofs.Ytjbmpnbfiahdhaa
open Go.RowKit
set_option linter.unusedVariables false
set_option maxRecDepth 100000

def ctrF (n : Int) (D : List (Int × Int)) (l r : Int) : Bool := areDepsF n D && (isDepF n l r && !impF D l r)
def ctrR (N : Nat) (D : List (Int × Int)) (l : Int) : List (List Int) := [List.replicate N 0, rowForF N (cloF D l) 1]
theorem bel_set2 {w0 w : World} {B : Nat} (h : Below B w0 w) {k : Nat} (hk : B ≤ k) (b0 b1 : Value) : Below B w0 ((w.setCell ⟨k, 0, none⟩ b0).setCell ⟨k, 1, none⟩ b1) :=
  Below.setCell (p := ⟨k, 1, none⟩) (Below.setCell (p := ⟨k, 0, none⟩) h hk b0) hk b1
set_option maxHeartbeats 800000 in
theorem c_CounterTable_no (n : Int) (oa) (cap : Nat) (D : List (Int × Int)) (l r : Int) (w : World) (hD : DepsAt w oa D) (h : ctrF n D l r = false) :
    Ans Try.prog 34 #[.int .i64 n, .slice oa D.length cap, .agg #[.int .i64 l, .int .i64 r]] w (.tuple #[.agg #[.int .i64 0, .slice none 0 0], .bool false]) := by
  unfold Ans
  have hb := bel2 w (.cells #[.int .i64 l, .int .i64 r] 55) (.cells #[.int .i64 0, .slice none 0 0] 26)
  have kD := (Blk.new w #[.int .i64 l, .int .i64 r] 55).alloc (.cells #[.int .i64 0, .slice none 0 0] 26)
  have kZ := Blk.new (w.alloc (.cells #[.int .i64 l, .int .i64 r] 55)) #[.int .i64 0, .slice none 0 0] 26
  simp only [World.size_alloc] at kZ
  cases ha : areDepsF n D
  · go_enter Try.func34, Try.ntmps34
    go_wp2_with fail
    refine Calls.mono (Ans.eqb (c_AreDeps _ _ _ _ _ (hD.keep hb)) ha) ?_
    rintro e w1 ⟨rfl, hbn⟩
    replace kZ := kZ.keep hbn
    replace hb := bel_to hb hbn
    clear hbn kD
    have z0 := kZ.cell 0 (.int .i64 0) rfl
    have z1 := kZ.cell 1 (.slice none 0 0) rfl
    have f0 := kZ.free 0
    have f1 := kZ.free 1
    go_wp2
    exact bodyPost_ret (v := .tuple #[.agg #[.int .i64 0, .slice none 0 0], .bool false]) (by simp [results, Try.results34, go_sem, z0, z1]) rfl ⟨rfl, bel_set2 hb (Nat.le_succ _) _ _⟩
  · have hv := (areDepsF_val ha).1
    cases hi : isDepF n l r
    · go_enter Try.func34, Try.ntmps34
      go_wp2_with fail
      refine Calls.mono (Ans.eqb (c_AreDeps _ _ _ _ _ (hD.keep hb)) ha) ?_
      rintro e w1 ⟨rfl, hbn⟩
      replace kZ := kZ.keep hbn
      replace kD := kD.keep hbn
      replace hb := bel_to hb hbn
      clear hbn
      have d0 := kD.cell 0 (.int .i64 l) rfl
      have d1 := kD.cell 1 (.int .i64 r) rfl
      go_wp2_with fail
      refine Calls.mono (Ans.eqb (c_isDep _ _ _ _) hi) ?_
      rintro e w2 ⟨rfl, hbn⟩
      replace kZ := kZ.keep hbn
      replace hb := bel_to hb hbn
      clear hbn d0 d1 kD
      have z0 := kZ.cell 0 (.int .i64 0) rfl
      have z1 := kZ.cell 1 (.slice none 0 0) rfl
      have f0 := kZ.free 0
      have f1 := kZ.free 1
      go_wp2
      exact bodyPost_ret (v := .tuple #[.agg #[.int .i64 0, .slice none 0 0], .bool false]) (by simp [results, Try.results34, go_sem, z0, z1]) rfl ⟨rfl, bel_set2 hb (Nat.le_succ _) _ _⟩
    · obtain ⟨⟨hl, hr⟩, h15⟩ := isDepF_val hi
      have hp : impF D l r = true := by unfold ctrF at h; rw [ha, hi] at h; simpa using h
      go_enter Try.func34, Try.ntmps34
      go_wp2_with fail
      refine Calls.mono (Ans.eqb (c_AreDeps _ _ _ _ _ (hD.keep hb)) ha) ?_
      rintro e w1 ⟨rfl, hbn⟩
      replace kZ := kZ.keep hbn
      replace kD := kD.keep hbn
      replace hb := bel_to hb hbn
      clear hbn
      have d0 := kD.cell 0 (.int .i64 l) rfl
      have d1 := kD.cell 1 (.int .i64 r) rfl
      go_wp2_with fail
      refine Calls.mono (Ans.eqb (c_isDep _ _ _ _) hi) ?_
      rintro e w2 ⟨rfl, hbn⟩
      replace kZ := kZ.keep hbn
      replace kD := kD.keep hbn
      replace hb := bel_to hb hbn
      clear hbn d0 d1
      have d0 := kD.cell 0 (.int .i64 l) rfl
      have d1 := kD.cell 1 (.int .i64 r) rfl
      go_wp2_with fail
      refine Calls.mono (Ans.eqb (c_implies _ _ _ _ _ _ (hD.keep hb) hv hl hr) hp) ?_
      rintro e w3 ⟨rfl, hbn⟩
      replace kZ := kZ.keep hbn
      replace hb := bel_to hb hbn
      clear hbn d0 d1 kD
      have z0 := kZ.cell 0 (.int .i64 0) rfl
      have z1 := kZ.cell 1 (.slice none 0 0) rfl
      have f0 := kZ.free 0
      have f1 := kZ.free 1
      go_wp2
      exact bodyPost_ret (v := .tuple #[.agg #[.int .i64 0, .slice none 0 0], .bool false]) (by simp [results, Try.results34, go_sem, z0, z1]) rfl ⟨rfl, bel_set2 hb (Nat.le_succ _) _ _⟩
theorem ctr_made (w3 : World) (N : Nat) (hN : N ≤ 5) : OwnI (w3.alloc (.cells (madeCells #[Value.int .i64 0] N) 3)) w3.heap.size (.slice (some ⟨w3.heap.size, 0, none⟩) N N) (List.replicate N 0) :=
  ownI_made (by simpa [Value.cells] using World.ownsRow_lit w3 (madeCells #[Value.int .i64 0] N) N (Nat.le_refl _) (by unfold maxLen; omega) (by simp [size_madeCells]))
theorem ctr_end {w w3 W : World} {N m : Nat} {o5 : Option Addr} {c5 : Nat} {cl : Int} (hb : Below w.heap.size w w3) (kZ : Blk w3 (w.heap.size + 1) #[.int .i64 0, .slice none 0 0] 26) (h35 : Below w3.heap.size w3 W)
    (hM5 : OwnI W w3.heap.size (.slice (some ⟨m, 0, none⟩) N N) (List.replicate N 0)) (hI6 : OwnI W w3.heap.size (.slice o5 N c5) (rowForF N cl 1)) (hap : Apart (.slice (some ⟨m, 0, none⟩) N N) (.slice o5 N c5)) (W' : World)
    (hW : W' = (((W.alloc (.cells #[Value.slice (some ⟨m, 0, none⟩) N N, Value.slice o5 N c5] 68)).setCell ⟨w.heap.size + 1, 0, none⟩ (.int .i64 N)).setCell ⟨w.heap.size + 1, 1, none⟩ (.slice (some ⟨W.heap.size, 0, none⟩) 2 2))) :
    OwnRows W' w.heap.size (.slice (some ⟨W.heap.size, 0, none⟩) 2 2) [.slice (some ⟨m, 0, none⟩) N N, .slice o5 N c5] [List.replicate N 0, rowForF N cl 1] ∧ Below w.heap.size w W' ∧ W'.cell? ⟨w.heap.size + 1, 0, none⟩ = some (.int .i64 N) ∧ W'.cell? ⟨w.heap.size + 1, 1, none⟩ = some (.slice (some ⟨W.heap.size, 0, none⟩) 2 2) := by
  have hnA : (Value.slice (some ⟨m, 0, none⟩) N N).ownBlock ≠ some W.heap.size := fun e => by have := (World.ownsRow.lt hM5 _ e).2; omega
  have hnB : (Value.slice o5 N c5).ownBlock ≠ some W.heap.size := fun e => by have := (World.ownsRow.lt hI6 _ e).2; omega
  have hba := (Below.refl W.heap.size W).alloc (Nat.le_refl _) (.cells #[Value.slice (some ⟨m, 0, none⟩) N N, Value.slice o5 N c5] 68)
  have hR := two_rows (hM5.keep hba) (hI6.keep hba) (by simp) (rowFor_len _ _ _) hap (World.ownsRow_lit W #[Value.slice (some ⟨m, 0, none⟩) N N, Value.slice o5 N c5] 2 h35.size (by decide) rfl) hnA hnB
  have hk3 : w.heap.size + 1 < w3.heap.size := kZ.lt
  have hR2 := (hR.far_set 0 (.int .i64 N) hk3).far_set 1 (.slice (some ⟨W.heap.size, 0, none⟩) 2 2) hk3
  have hB2 := bel_set2 (bel_to (bel_to hb h35) hba) (k := w.heap.size + 1) (Nat.le_succ _) (.int .i64 N) (.slice (some ⟨W.heap.size, 0, none⟩) 2 2)
  have kZ6 : Blk _ (w.heap.size + 1) #[.int .i64 N, .slice none 0 0] 26 := ((kZ.keep h35).keep hba).set 0 (.int .i64 N)
  have kZ7 : Blk _ (w.heap.size + 1) #[.int .i64 N, .slice (some ⟨W.heap.size, 0, none⟩) 2 2] 26 := kZ6.set 1 (.slice (some ⟨W.heap.size, 0, none⟩) 2 2)
  subst hW
  exact ⟨hR2.based (by omega), hB2, kZ7.cell 0 (.int .i64 N) rfl, kZ7.cell 1 (.slice (some ⟨W.heap.size, 0, none⟩) 2 2) rfl⟩
set_option maxHeartbeats 1600000 in
theorem c_CounterTable_ok (N : Nat) (oa) (cap : Nat) (D : List (Int × Int)) (l r : Int) (w : World) (hD : DepsAt w oa D) (h : ctrF N D l r = true) :
    Calls Try.prog 34 #[.int .i64 N, .slice oa D.length cap, .agg #[.int .i64 l, .int .i64 r]] w fun e w' => ∃ o c xs, e = .returned (.tuple #[.agg #[.int .i64 N, .slice o 2 c], .bool true]) ∧ OwnRows w' w.heap.size (.slice o 2 c) xs (ctrR N D l) ∧ Below w.heap.size w w' := by
  have hb := bel2 w (.cells #[.int .i64 l, .int .i64 r] 55) (.cells #[.int .i64 0, .slice none 0 0] 26)
  have kD := (Blk.new w #[.int .i64 l, .int .i64 r] 55).alloc (.cells #[.int .i64 0, .slice none 0 0] 26)
  have kZ := Blk.new (w.alloc (.cells #[.int .i64 l, .int .i64 r] 55)) #[.int .i64 0, .slice none 0 0] 26
  simp only [World.size_alloc] at kZ
  unfold ctrF at h
  simp only [Bool.and_eq_true, Bool.not_eq_true'] at h
  obtain ⟨ha, hi, hp⟩ := h
  have hv := (areDepsF_val ha).1
  obtain ⟨⟨hl, hr⟩, h15⟩ := isDepF_val hi
  have hN : N ≤ 5 := by omega
  obtain ⟨i0, hii, hz0, hz1, hz2⟩ := info_parts info_int
  go_enter Try.func34, Try.ntmps34
  go_wp2_with fail
  refine Calls.mono (Ans.eqb (c_AreDeps _ _ _ _ _ (hD.keep hb)) ha) ?_
  rintro e w1 ⟨rfl, hbn⟩
  replace kZ := kZ.keep hbn
  replace kD := kD.keep hbn
  replace hb := bel_to hb hbn
  clear hbn
  have d0 := kD.cell 0 (.int .i64 l) rfl
  have d1 := kD.cell 1 (.int .i64 r) rfl
  go_wp2_with fail
  refine Calls.mono (Ans.eqb (c_isDep _ _ _ _) hi) ?_
  rintro e w2 ⟨rfl, hbn⟩
  replace kZ := kZ.keep hbn
  replace kD := kD.keep hbn
  replace hb := bel_to hb hbn
  clear hbn d0 d1
  have d0 := kD.cell 0 (.int .i64 l) rfl
  have d1 := kD.cell 1 (.int .i64 r) rfl
  go_wp2_with fail
  refine Calls.mono (Ans.eqb (c_implies _ _ _ _ _ _ (hD.keep hb) hv hl hr) hp) ?_
  rintro e w3 ⟨rfl, hbn⟩
  replace kZ := kZ.keep hbn
  replace kD := kD.keep hbn
  replace hb := bel_to hb hbn
  clear hbn d0 d1
  have hmk : ∀ w' : World, (Instr.makeSlice 68 (.int .i64 N) (.int .i64 N)).run Try.prog w' = .ok (.slice (some ⟨w'.heap.size, 0, none⟩) N N) (w'.alloc (.cells (madeCells #[Value.int .i64 0] N) 3)) := fun w' => by
    have := run_make w' 68 3 i0 (.int .i64 0) Try.underlying68 hii hz0 .i64 .i64 N N (by omega) (by omega) (by rw [hz2]; omega) (by omega)
    rw [hz1] at this; simpa [Value.cells] using this
  have d0 := kD.cell 0 (.int .i64 l) rfl
  have d0b : (w3.alloc (.cells (madeCells #[Value.int .i64 0] N) 3)).cell? ⟨w.heap.size, 0, none⟩ = some (.int .i64 l) := (kD.alloc _).cell 0 _ rfl
  go_wp2_with fail
  go_region_law (first
    | (go_simp; refine (c_closure oa cap D l _ (hD.keep (by first | exact hb.drew | exact (hb.alloc hb.size _).drew)) hl hv).mono ?_; rintro e w4 ⟨rfl, hbn4⟩; have h34 := bel_to (w := w3) (by first | exact (Below.refl _ _).drew | exact ((Below.refl _ _).alloc (Nat.le_refl _) _).drew) hbn4)
    | (go_simp; refine (c_rowFor N hN _ 1 _).mono ?_; rintro e w5 ⟨o5, c5, rfl, hI5, hb5⟩; have h45 := bel_to (w := w4) (by first | exact (Below.refl _ _) | exact (Below.refl _ _).drew | exact (Below.refl _ _).alloc (Nat.le_refl _) _ | exact ((Below.refl _ _).alloc (Nat.le_refl _) _).drew) hb5; have kZ5 := (kZ.keep h34).keep h45; have q0 := fun c T => (kZ5.alloc (.cells c T)).cell 0 (.int .i64 0) rfl; have q1 := fun c T => (kZ5.alloc (.cells c T)).cell 1 (.slice none 0 0) rfl; have g0 := fun c T => (kZ5.alloc (.cells c T)).free 0; have g1 := fun c T => (kZ5.alloc (.cells c T)).free 1; have qq0 := fun c T c' T' => ((kZ5.alloc (.cells c T)).alloc (.cells c' T')).cell 0 (.int .i64 0) rfl; have qq1 := fun c T c' T' => ((kZ5.alloc (.cells c T)).alloc (.cells c' T')).cell 1 (.slice none 0 0) rfl; have gg0 := fun c T c' T' => ((kZ5.alloc (.cells c T)).alloc (.cells c' T')).free 0; have gg1 := fun c T c' T' => ((kZ5.alloc (.cells c T)).alloc (.cells c' T')).free 1))
  all_goals
    obtain ⟨hR3, hB2, z0, z1⟩ : _ ∧ _ ∧ _ ∧ _ := by
      first
        | exact ctr_end hb kZ (bel_to h34 h45) ((OwnI.keep (w := (w3.alloc (.cells (madeCells #[Value.int .i64 0] N) 3)).drew) (ctr_made w3 N hN) hbn4).keep h45) (hI5.based h34.size) (apart_old (OwnI.keep (w := (w3.alloc (.cells (madeCells #[Value.int .i64 0] N) 3)).drew) (ctr_made w3 N hN) hbn4) hI5) _ rfl
        | exact ctr_end hb kZ (bel_to h34 h45) (OwnI.based ((ctr_made w4 N hN).keep hb5) h34.size) (hI5.based (Nat.le_trans h34.size (by simp))) (apart_old (ctr_made w4 N hN) hI5) _ rfl
        | exact ctr_end hb kZ (bel_to (bel_to h34 h45) ((Below.refl _ _).alloc (Nat.le_refl _) _)) ((ctr_made w5 N hN).based (bel_to h34 h45).size) (OwnI.keep (hI5.based h34.size) ((Below.refl _ _).alloc (Nat.le_refl _) _)) (Apart.symm (apart_old hI5 (ctr_made w5 N hN))) _ rfl
    clear hD hmk d0 d0b q0 q1 g0 g1 qq0 qq1 gg0 gg1 hb5 h45 hI5 kZ5 kZ kD hbn4 h34
    try simp only [World.size_alloc] at z0 z1 hR3 hB2
    go_wp2
    first | exact bodyPost_ret (v := .tuple #[.agg #[.int .i64 N, .slice (some ⟨w5.heap.size, 0, none⟩) 2 2], .bool true]) (by simp [results, Try.results34, go_sem, z0, z1]) rfl ⟨_, _, _, rfl, hR3, hB2⟩ | exact bodyPost_ret (v := .tuple #[.agg #[.int .i64 N, .slice (some ⟨w5.heap.size + 1, 0, none⟩) 2 2], .bool true]) (by simp [results, Try.results34, go_sem, z0, z1]) rfl ⟨_, _, _, rfl, hR3, hB2⟩
end Go.Proofs.Ytjbmpnbfiahdhaa
namespace Go.Proofs.Ytjbmpnbfiahdhaa
open Go.RowKit
set_option linter.unusedVariables false
set_option maxRecDepth 100000

theorem rowFor_succ (k : Nat) (x v : Int) : rowForF (k + 1) x v = rowForF k x v ++ [if hasc x k then 0 else v] := by unfold rowForF; rw [List.range_succ, List.map_append]; rfl
theorem row_bit {x : Int} (hx : St x) {k : Nat} (hk : k < 5) : bits BinOp.and .i64 (x / 2 ^ k) 1 = if hasc x k then 1 else 0 := by
  obtain ⟨n, hn, rfl⟩ := st_nat hx
  have h : ∀ n < 32, ∀ k < 5, bits BinOp.and .i64 ((n : Nat) / 2 ^ k) 1 = if hasc (n : Nat) (k : Nat) then 1 else 0 := by decide +kernel
  exact h n hn k hk
end Go.Proofs.Ytjbmpnbfiahdhaa
namespace Go.Proofs.Ytjbmpnbfiahdhaa
open Go.RowKit
set_option linter.unusedVariables false

/-- The rows that the first k closed sets of L give, behind a row of zeros. -/
def armUpTo (N : Nat) (L : List Int) (k : Nat) : List (List Int) :=
  List.replicate N 0 :: ((List.range k).filter fun i => !(nth L i == 2 ^ N - 1)).map fun (i : Nat) => rowForF N (nth L i) ((i : Int) + 1)
theorem arm_zero (N : Nat) (L : List Int) : armUpTo N L 0 = [List.replicate N 0] := rfl
theorem arm_succ (N : Nat) (L : List Int) (k : Nat) : armUpTo N L (k + 1) = armUpTo N L k ++ (if (nth L k == 2 ^ N - 1) then [] else [rowForF N (nth L k) ((k : Int) + 1)]) := by
  unfold armUpTo
  rw [List.range_succ, List.filter_append, List.map_append, List.cons_append]
  cases h : (nth L k == 2 ^ N - 1) <;> simp [h]
theorem arm_len (N : Nat) (L : List Int) (k : Nat) : (armUpTo N L k).length ≤ k + 1 := by
  unfold armUpTo
  have := List.length_filter_le (fun i => !(nth L i == 2 ^ N - 1)) (List.range k)
  simp at this ⊢; omega
theorem arm_rows (N : Nat) (L : List Int) (k : Nat) {r : List Int} (h : r ∈ armUpTo N L k) : r.length = N := by
  unfold armUpTo at h
  rcases List.mem_cons.1 h with rfl | h
  · simp
  · obtain ⟨i, _, rfl⟩ := List.mem_map.1 h
    exact rowFor_len _ _ _
end Go.Proofs.Ytjbmpnbfiahdhaa
namespace Go.Proofs.Ytjbmpnbfiahdhaa
open Go.RowKit
set_option linter.unusedVariables false
set_option maxRecDepth 100000

/-- Neither the list nor a row of it lies in block k. -/
def Avoid (k : Nat) (v : Value) (xs : List Value) : Prop := ∀ y, y = v ∨ y ∈ xs → y.ownBlock ≠ some k
theorem set_apart {w : World} {B size n k j : Nat} {e : TypeId} {y u : Value} {ys : List Value} (h : w.ownsRow B e size y n ys) (hk : y.ownBlock ≠ some k) : (w.setCell ⟨k, j, none⟩ u).ownsRow B e size y n ys :=
  World.ownsRow.kept h (grown_set w k j _) (.inr hk)
theorem ownRows_setAvoid {w : World} {B k : Nat} {v : Value} {xs : List Value} {R : List (List Int)} (h : OwnRows w B v xs R) (ha : Avoid k v xs) (j : Nat) (u : Value) : OwnRows (w.setCell ⟨k, j, none⟩ u) B v xs R :=
  ⟨h.len, set_apart h.outer (ha v (.inl rfl)), fun t ht => by
    obtain ⟨o, c, h1, h2, h3⟩ := h.rows t ht
    exact ⟨o, c, h1, set_apart h2 (ha _ (.inr (List.mem_iff_getElem?.2 ⟨t, h1⟩))), h3⟩, h.pair⟩
/-- 't.Rows = append(t.Rows, r)' for a table that the call made. -/
theorem tab_snoc {w w5 w7 : World} {B k6 c c5 nC : Nat} {hd v' : Value} {T T2 : TypeId} {o o5 : Option Addr} {xs : List Value} {P : List (List Int)} {C : List Int} (hnC : C.length = nC)
    (hO : OwnRows w5 B (.slice o P.length c) xs P) (hC : OwnI w5 B (.slice o5 nC c5) C) (hap : ApartR (.slice o P.length c) xs (.slice o5 nC c5))
    (kb : Blk w5 k6 #[hd, .slice o P.length c] T) (av : Avoid k6 (.slice o P.length c) xs) (avC : (Value.slice o5 nC c5).ownBlock ≠ some k6) (hb : Below w.heap.size w w5) (hB : w.heap.size ≤ B) (hk6 : w.heap.size ≤ k6)
    (hown : w7.ownsRow B 68 1 v' (xs.length + 1) (xs ++ [.slice o5 nC c5])) (hgrow : (w5.alloc (.cells #[.slice o5 nC c5] T2)).grownBy w7 (Value.slice o P.length c).ownBlock) (hfr : Fresh (w5.alloc (.cells #[.slice o5 nC c5] T2)) (.slice o P.length c) v') :
    (∃ o' c', v' = .slice o' (P.length + 1) c') ∧ w7.cell? ⟨k6, 1, none⟩ = some (.slice o P.length c) ∧ w7.frozen? ⟨k6, 1, none⟩ = false ∧ Blk (w7.setCell ⟨k6, 1, none⟩ v') k6 #[hd, v'] T ∧
    OwnRows (w7.setCell ⟨k6, 1, none⟩ v') B v' (xs ++ [.slice o5 nC c5]) (P ++ [C]) ∧ Avoid k6 v' (xs ++ [.slice o5 nC c5]) ∧ Below w.heap.size w (w7.setCell ⟨k6, 1, none⟩ v') ∧
    (∀ (B' : Nat) (e : TypeId) (size : Nat) (u : Value) (n : Nat) (ys : List Value), w5.ownsRow B' e size u n ys → Apart u (.slice o P.length c) → u.ownBlock ≠ some k6 → (w7.setCell ⟨k6, 1, none⟩ v').ownsRow B' e size u n ys ∧ Apart u v') ∧
    (∀ (g : Nat) (cs : Array Value) (T' : TypeId), Blk w5 g cs T' → g ≠ k6 → (Value.slice o P.length c).ownBlock ≠ some g → Blk (w7.setCell ⟨k6, 1, none⟩ v') g cs T') := by
  subst hnC
  have hO2 := OwnRows.snoc hO hC hap hown hgrow hfr
  have hsh : ∃ o' c', v' = .slice o' (P.length + 1) c' := by
    obtain ⟨o', c', e⟩ := hO2.shape
    exact ⟨o', c', by rw [e]; simp⟩
  have hv : v'.ownBlock ≠ some k6 := by
    rcases hfr with h | h
    · rw [h]; exact av _ (.inl rfl)
    · intro e
      have h1 := h k6 e
      have h2 := kb.lt
      simp at h1; omega
  have av2 : Avoid k6 v' (xs ++ [.slice o5 C.length c5]) := by
    intro y hy
    rcases hy with rfl | hy
    · exact hv
    · rcases List.mem_append.1 hy with hy | hy
      · exact av y (.inr hy)
      · rw [List.mem_singleton] at hy; subst hy; exact avC
  have k7 : Blk w7 k6 #[hd, .slice o P.length c] T := (kb.alloc _).grown hgrow (fun e => av _ (.inl rfl) e.symm)
  have hb7 : Below w.heap.size w w7 := (hb.alloc hb.size _).grown hgrow (by have := hb.size; simp; omega) (fun g hg => Nat.le_trans hB (World.ownsRow.lt hO.outer g hg).1)
  refine ⟨hsh, k7.cell 1 _ rfl, k7.free 1, k7.set 1 v', ownRows_setAvoid hO2 av2 1 v', av2, Below.setCell (p := (⟨k6, 1, none⟩ : Addr)) hb7 hk6 v', ?_, ?_⟩
  · intro B' e size u n ys h ha hk
    have h1 := World.ownsRow.alloc h (.cells #[.slice o5 C.length c5] T2)
    exact ⟨set_apart (World.ownsRow.kept h1 hgrow ha) hk, Apart.next h1 ha hfr⟩
  · intro g cs T' h hg hne
    exact ((h.alloc _).grown hgrow (fun e => hne e.symm)).far ⟨k6, 1, none⟩ v' hg

def armO (n : Int) (D : List (Int × Int)) : List (List Int) := if areDepsF n D then armUpTo n.toNat (closedSetsF n D) (closedSetsF n D).length else []
def armN (n : Int) (D : List (Int × Int)) : Int := if areDepsF n D then n else 0
def ArmAns (f : FuncId) (n : Int) (oa : Option Addr) (cap : Nat) (D : List (Int × Int)) (w : World) : Prop :=
  Calls Try.prog f #[.int .i64 n, .slice oa D.length cap] w fun e w' => ∃ o c xs, e = .returned (.tuple #[.agg #[.int .i64 (armN n D), .slice o (armO n D).length c], .bool (areDepsF n D)]) ∧ OwnRows w' w.heap.size (.slice o (armO n D).length c) xs (armO n D) ∧ Below w.heap.size w w'
theorem closedSets_le (n : Int) (D : List (Int × Int)) : (closedSetsF n D).length ≤ 32 := by
  unfold closedSetsF
  split
  · next h =>
    have h1 := (areDepsF_val h).2
    have := flt_le (fun x => cloF D x == x) (2 ^ n.toNat)
    have := (pow_nat (n := n) (by omega) h1.2.1).2.1
    omega
  · simp
theorem closedSets_st {n : Int} {D : List (Int × Int)} : ∀ x ∈ closedSetsF n D, St x := by
  intro x hx
  unfold closedSetsF at hx
  split at hx
  · next h =>
    have h1 := (areDepsF_val h).2
    have := (pow_nat (n := n) (by omega) h1.2.1).2.1
    have := (flt_mem.1 hx).1
    exact ⟨this.1, by omega⟩
  · cases hx
theorem nth_mem {L : List Int} {k : Nat} (h : k < L.length) : nth L k ∈ L := List.mem_iff_getElem?.2 ⟨k, nth_eq h⟩
/-- What holds before the closed set k of L is treated. -/
def ArmI (N : Nat) (L : List Int) (vL : Value) (k6 : Nat) (w : World) (k : Nat) (wr : World) : Prop := ∃ (o : Option Addr) (c : Nat) (xs : List Value), Blk wr k6 #[.int .i64 N, .slice o (armUpTo N L k).length c] 26 ∧ OwnRows wr (w.heap.size + 1) (.slice o (armUpTo N L k).length c) xs (armUpTo N L k) ∧ Avoid k6 (.slice o (armUpTo N L k).length c) xs ∧ OwnI wr (w.heap.size + 1) vL L ∧ Apart vL (.slice o (armUpTo N L k).length c) ∧ Blk wr w.heap.size #[.int .i64 0, .slice none 0 0] 26 ∧ Below w.heap.size w wr
theorem ArmI.next {N : Nat} {L : List Int} {vL : Value} {k6 : Nat} {w : World} {k : Nat} {wr : World} {P : List (List Int)} {C : List Int} {o : Option Addr} {c : Nat} {xs : List Value} (hS : armUpTo N L (k + 1) = P ++ [C]) (h1 : Blk wr k6 #[.int .i64 N, .slice o (P.length + 1) c] 26) (h2 : OwnRows wr (w.heap.size + 1) (.slice o (P.length + 1) c) xs (P ++ [C])) (h3 : Avoid k6 (.slice o (P.length + 1) c) xs) (h4 : OwnI wr (w.heap.size + 1) vL L) (h5 : Apart vL (.slice o (P.length + 1) c)) (h6 : Blk wr w.heap.size #[.int .i64 0, .slice none 0 0] 26) (h7 : Below w.heap.size w wr) : ArmI N L vL k6 w (k + 1) wr := by
  unfold ArmI
  have e : (P ++ [C]).length = P.length + 1 := by simp
  rw [hS, e]
  exact ⟨o, c, xs, h1, h2, h3, h4, h5, h6, h7⟩
theorem c_ArmstrongTable_no (n : Int) (oa) (cap : Nat) (D : List (Int × Int)) (w : World) (hD : DepsAt w oa D) (ha : areDepsF n D = false) :
    Ans Try.prog 13 #[.int .i64 n, .slice oa D.length cap] w (.tuple #[.agg #[.int .i64 0, .slice none 0 0], .bool false]) := by
  unfold Ans
  have hb := (Below.refl w.heap.size w).alloc (Nat.le_refl _) (.cells #[.int .i64 0, .slice none 0 0] 26)
  have kZ := Blk.new w #[.int .i64 0, .slice none 0 0] 26
  go_enter Try.func13, Try.ntmps13
  go_wp2_with fail
  refine Calls.mono (Ans.eqb (c_AreDeps _ _ _ _ _ (hD.keep hb)) ha) ?_
  rintro e w1 ⟨rfl, hbn⟩
  replace kZ := kZ.keep hbn
  replace hb := bel_to hb hbn
  clear hbn
  have z0 := kZ.cell 0 (.int .i64 0) rfl
  have z1 := kZ.cell 1 (.slice none 0 0) rfl
  have f0 := kZ.free 0
  have f1 := kZ.free 1
  go_wp2
  exact bodyPost_ret (v := .tuple #[.agg #[.int .i64 0, .slice none 0 0], .bool false]) (by simp [results, Try.results13, go_sem, z0, z1]) rfl ⟨rfl, bel_set2 hb (Nat.le_refl _) _ _⟩
theorem ownRows_litRow {w : World} {B g n c : Nat} {o : Option Addr} {L : List Int} (hI : OwnI w B (.slice o n c) L) (hl : L.length = n) (hO : w.ownsRow B 68 1 (.slice (some ⟨g, 0, none⟩) 1 1) 1 [.slice o n c]) (hne : (Value.slice o n c).ownBlock ≠ some g) : OwnRows w B (.slice (some ⟨g, 0, none⟩) 1 1) [.slice o n c] [L] := by
  subst hl
  refine ⟨rfl, hO, fun j hj => ?_, fun i j hij hj => ?_⟩
  · match j, hj with
    | 0, _ => exact ⟨o, c, rfl, hI, apart_lit hne⟩
  · simp at hj; omega
set_option maxHeartbeats 1600000 in
theorem c_ArmstrongTable_ok (N : Nat) (oa) (cap : Nat) (D : List (Int × Int)) (w : World) (hD : DepsAt w oa D) (ha : areDepsF N D = true) :
    Calls Try.prog 13 #[.int .i64 N, .slice oa D.length cap] w fun e w' => ∃ o c xs, e = .returned (.tuple #[.agg #[.int .i64 N, .slice o (armUpTo N (closedSetsF N D) (closedSetsF N D).length).length c], .bool true]) ∧ OwnRows w' w.heap.size (.slice o (armUpTo N (closedSetsF N D) (closedSetsF N D).length).length c) xs (armUpTo N (closedSetsF N D) (closedSetsF N D).length) ∧ Below w.heap.size w w' := by
  have hb := (Below.refl w.heap.size w).alloc (Nat.le_refl _) (.cells #[.int .i64 0, .slice none 0 0] 26)
  have kZ := Blk.new w #[.int .i64 0, .slice none 0 0] 26
  obtain ⟨hv, hn1, hn5, _⟩ := areDepsF_val ha
  have hN : N ≤ 5 := by omega
  obtain ⟨i0, hi, hz0, hz1, hz2⟩ := info_parts info_int
  obtain ⟨j0, hj, hy0, hy1, hy2⟩ := info_parts info_ints
  have hp := pow_wrap (n := (N : Int)) (by omega) hn5
  simp only [Int.toNat_natCast] at hp
  have hp1 := hp.1
  have hp2 := hp.2.1
  have hp3 := hp.2.2
  clear hp
  go_enter Try.func13, Try.ntmps13
  go_wp2_with fail
  refine Calls.mono (Ans.eqb (c_AreDeps _ _ _ _ _ (hD.keep hb)) ha) ?_
  rintro e w1 ⟨rfl, hbn⟩
  replace kZ := kZ.keep hbn
  replace hb := bel_to hb hbn
  clear hbn
  have hz := kZ.lt
  go_wp2_with (first | (at_make; refine wpList_make_full _ rfl _ _ 68 rfl w1.heap.size 3 i0 (.int .i64 0) 1 Try.underlying68 hi hz0 hz1 .i64 .i64 _ _ N rfl rfl rfl rfl (by rw [hz2]; omega) (by unfold maxLen; omega) (Nat.le_refl _) ?_; intro w2 hown hgrow) | fail)
  have hb2 := below_grown hgrow (Nat.le_refl _) (by simp)
  have hM := ownI_made hown
  replace kZ := kZ.keep hb2
  have hbw2 := bel_to hb hb2
  have hsz2 := hb2.size
  clear hown hgrow hb2
  have hba := (Below.refl w2.heap.size w2).alloc (Nat.le_refl _) (.cells #[.slice (some ⟨w1.heap.size, 0, none⟩) N N] 68)
  have hO := ownRows_litRow ((hM.keep hba).based (show w.heap.size + 1 ≤ w1.heap.size by omega)) (by simp) (World.ownsRow_lit w2 #[.slice (some ⟨w1.heap.size, 0, none⟩) N N] 1 (show w.heap.size + 1 ≤ w2.heap.size by omega) (by decide) rfl) (fun e => by have := (World.ownsRow.lt hM _ e).2; omega)
  have av : Avoid (w2.heap.size + 1) (.slice (some ⟨w2.heap.size, 0, none⟩) 1 1) [.slice (some ⟨w1.heap.size, 0, none⟩) N N] := fun y hy e => by
    rcases hy with rfl | hy
    · simp [Value.ownBlock] at e
    · rw [List.mem_singleton] at hy; subst hy; simp [Value.ownBlock] at e; omega
  have kT := Blk.new (w2.alloc (.cells #[.slice (some ⟨w1.heap.size, 0, none⟩) N N] 68)) #[.int .i64 N, .slice (some ⟨w2.heap.size, 0, none⟩) 1 1] 26
  simp only [World.size_alloc] at kT
  replace kZ := (kZ.keep hba).alloc (.cells #[.int .i64 N, .slice (some ⟨w2.heap.size, 0, none⟩) 1 1] 26)
  have hbb := (bel_to hbw2 hba).alloc (bel_to hbw2 hba).size (.cells #[.int .i64 N, .slice (some ⟨w2.heap.size, 0, none⟩) 1 1] 26)
  replace hO := hO.keep ((Below.refl _ _).alloc (Nat.le_refl _) (.cells #[.int .i64 N, .slice (some ⟨w2.heap.size, 0, none⟩) 1 1] 26))
  clear hM hbw2 hba hb
  go_wp2_with fail
  refine (c_ClosedSets N oa cap D _ (hD.keep hbb)).mono ?_
  rintro e w3 ⟨vL, rfl, hL, hbn⟩
  have hk6 : w.heap.size < w2.heap.size + 1 := by omega
  have avL : vL.ownBlock ≠ some (w2.heap.size + 1) := fun e => by have := (World.ownsRow.lt hL _ e).1; simp at this; omega
  have apL := (apart_old hO.outer hL).symm
  replace hL := hL.based (show w.heap.size + 1 ≤ _ by simp; omega)
  replace hO := hO.keep hbn
  replace kT := kT.keep hbn
  replace kZ := kZ.keep hbn
  replace hbb := bel_to hbb hbn
  obtain ⟨oL, cL, rfl⟩ := hL.shape
  have hLl := closedSets_le N D
  have HST : Hid (∀ x ∈ closedSetsF N D, St x) := closedSets_st
  clear hbn
  generalize hA : closedSetsF N D = L at *
  have HA : Hid (closedSetsF N D = L) := hA
  clear hA
  generalize w2.heap.size + 1 = k6 at *
  generalize w2.heap.size = k5 at *
  clear hsz2
  go_wp2_with fail
  go_loopw [23] (fun i wr => ∃ (k : Nat), i = .int .i64 k ∧ k ≤ L.length ∧ ArmI N L (.slice oL L.length cL) k6 w k wr) (fun i _ => L.length - (intOf i).toNat)
  case atStart => exact ⟨0, rfl, Nat.zero_le _, _, 1, _, kT, hO, av, hL, apL, kZ, hbb⟩
  case round =>
    clear kT hO av hL apL kZ hbb
    obtain ⟨k, rfl, hk, hArm⟩ := hrel
    have HSame : Hid ((nth L k == 2 ^ N - 1) = true → ArmI N L (.slice oL L.length cL) k6 w (k + 1) wr) := fun h => by
      have e := arm_succ N L k
      rw [h, if_pos rfl, List.append_nil] at e
      unfold ArmI at hArm ⊢
      rw [e]; exact hArm
    obtain ⟨o, c, xs, kT, hO, av, hL, apL, kZ, hb⟩ := hArm
    have HS : Hid (armUpTo N L (k + 1) = armUpTo N L k ++ (if (nth L k == 2 ^ N - 1) then [] else [rowForF N (nth L k) ((k : Int) + 1)])) := arm_succ N L k
    have hPl := arm_len N L k
    have HE : Hid (k = L.length → armUpTo N L k = armUpTo N L L.length) := fun e => by rw [e]
    have hxl := hO.len
    generalize armUpTo N L k = P at *
    have hkt := kT.lt
    by_cases hlt : k < L.length
    · obtain ⟨b, off, rfl, hbs, hcell⟩ := (hL.ints rfl (by unfold Room; omega)).at_ (by omega)
      have hc1 := hcell k hlt
      clear hcell
      generalize nth L k = x at *
      by_cases hx : x = 2 ^ N - 1
      · have hxd : (x == 2 ^ N - 1) = true := by simp [hx]
        have hxn : (x != 2 ^ N - 1) = false := by simp [hx]
        go_wp2_with fail
        go_roundw
        case rel => exact ⟨k + 1, by go_num, by omega, HSame.out hxd⟩
        case measure => simp [intOf]; omega
      · have hxd : (x == 2 ^ N - 1) = false := by simp [hx]
        have hxn : (x != 2 ^ N - 1) = true := by simp [hx]
        have q1 := kT.cell 1 (.slice o P.length c) rfl
        have q1d := kT.drew.cell 1 (.slice o P.length c) rfl
        have hk64 : IntKind.i64.wrap ((k : Int) + 1) = (k : Int) + 1 := by unfold IntKind.wrap; simp [IntKind.bits, IntKind.signed]; omega
        go_wp2_with fail
        go_region_law (first
          | ((try go_simp); refine (c_rowFor N hN x ((k : Int) + 1) _).mono ?_; rintro e w5 ⟨o5, c5, rfl, hI5, hbn⟩; have h45 := bel_to (w := wr) (by first | exact (Below.refl _ _).drew | exact Below.refl _ _) hbn; have kT5 := kT.keep h45; have hO5 := hO.keep h45; have q5 := kT5.cell 1 (.slice o P.length c) rfl; have q5b := fun cs T => (kT5.alloc (.cells cs T)).cell 1 (.slice o P.length c) rfl)
          | (refine step_append_held _ (by rfl) _ _ 24 (by rfl) (w.heap.size + 1) 68 j0 (.slice none 0 0) 1 24 Try.underlying24 hj hy0 hy1 hy2 rfl (by decide) (.slice o P.length c) _ _ (by rfl) (World.ownsRow.alloc hO5.outer _) _ 1 1 [.slice o5 N c5] (by rfl) rfl (World.news_of_block (cs := #[.slice o5 N c5]) (t := 68) (fr := (0, 0)) (heap_alloc_new _ _)) (by intro u hu; simp at hu; subst hu; rfl) (by unfold maxLen; omega) (by omega) (by have := h45.size; simp; omega) ?_; intro v7 w7 hown _ hgrow hfr; obtain ⟨⟨o7, c7, rfl⟩, s7, t7, kT7, hO7, av7, hb7, hoth, hblk⟩ := tab_snoc (w := w) (rowFor_len N x ((k : Int) + 1)) hO5 (hI5.based (show w.heap.size + 1 ≤ _ by simp; omega)) (OwnRows.fresh (w := wr) hO hI5) kT5 av (fun e => by have := (World.ownsRow.lt hI5 _ e).1; simp at this; omega) (bel_to hb h45) (Nat.le_succ _) (show w.heap.size ≤ k6 by omega) hown hgrow hfr; clear hown hgrow hfr)
          | fail)
        all_goals
          obtain ⟨hL7, apL7⟩ := hoth _ _ _ _ _ _ (hL.keep h45) apL avL
          have kZ7 := hblk _ _ _ (kZ.keep h45) (show w.heap.size ≠ k6 by omega) (fun e => by have := (World.ownsRow.lt hO.outer _ e).1; omega)
          have HR7 := (show Hid _ from ArmI.next (show armUpTo N L (k + 1) = P ++ [rowForF N x ((k : Int) + 1)] by rw [HS.out, hxd]; rfl) kT7 hO7 av7 hL7 apL7 kZ7 hb7)
          clear hL7 apL7 kZ7 kT7 hO7 av7 hoth hblk hb7
          go_wp2
          go_roundw
          case rel => exact ⟨k + 1, by go_num, by omega, HR7.out⟩
          case measure => simp [intOf]; omega
    · have hkk : k = L.length := by omega
      have HP := (show Hid _ from HE.out hkk)
      have r0 := kT.cell 0 (.int .i64 N) rfl
      have r1 := kT.cell 1 (.slice o P.length c) rfl
      have z0 := kZ.cell 0 (.int .i64 0) rfl
      have z1 := kZ.cell 1 (.slice none 0 0) rfl
      have f0 := kZ.free 0
      have f1 := kZ.free 1
      have k2 : Blk _ w.heap.size #[.int .i64 N, .slice o P.length c] 26 := (kZ.set 0 (.int .i64 N)).set 1 (.slice o P.length c)
      have q0 := k2.cell 0 (.int .i64 N) rfl
      have q1 := k2.cell 1 (.slice o P.length c) rfl
      clear hkk
      go_wp2
      refine bodyPost_ret (v := .tuple #[.agg #[.int .i64 N, .slice o P.length c], .bool true]) (by simp only [results, Try.results13]; simp [go_sem, q0, q1]) rfl ?_
      rw [HA.out, ← HP.out]
      exact ⟨o, c, xs, rfl, ((hO.far_set 0 (.int .i64 N) (Nat.lt_succ_self _)).far_set 1 (.slice o P.length c) (Nat.lt_succ_self _)).based (Nat.le_succ _), bel_set2 hb (Nat.le_refl _) _ _⟩
end Go.Proofs.Ytjbmpnbfiahdhaa
namespace Go.Proofs.Ytjbmpnbfiahdhaa
open Go.RowKit
theorem heap_two (w : World) (o1 o2 : Obj) : ((w.alloc o1).alloc o2).heap[w.heap.size + 1]? = some o2 := by
  have := heap_alloc_new (w.alloc o1) o2
  rwa [World.size_alloc] at this
end Go.Proofs.Ytjbmpnbfiahdhaa
namespace Go.Proofs.Ytjbmpnbfiahdhaa
open Go.RowKit
set_option linter.unusedVariables false
set_option maxRecDepth 100000

theorem ArmI.keep {N : Nat} {L : List Int} {vL : Value} {k6 : Nat} {w : World} {k : Nat} {wr w' : World} (h : ArmI N L vL k6 w k wr) (hb : Below wr.heap.size wr w') : ArmI N L vL k6 w k w' := by
  obtain ⟨o, c, xs, h1, h2, h3, h4, h5, h6, h7⟩ := h
  exact ⟨o, c, xs, h1.keep hb, h2.keep hb, h3, h4.keep hb, h5, h6.keep hb, bel_to h7 hb⟩
theorem Blk.world {w : World} {g : Nat} {c : Array Value} {T : TypeId} (h : Blk w g c T) : ∃ w', w' = w := ⟨w, rfl⟩
theorem drew_grown {w w' : World} {row : Option Nat} (h : w.drew.grownBy w' row) : w.grownBy w' row := ⟨h.os, h.tape, h.output, h.size, h.block⟩
theorem drew_fresh {w : World} {v v' : Value} (h : Fresh w.drew v v') : Fresh w v v' := h
theorem c_specArmstrongTable_no (n : Int) (oa) (cap : Nat) (D : List (Int × Int)) (w : World) (hD : DepsAt w oa D) (ha : areDepsF n D = false) :
    Ans Try.prog 11 #[.int .i64 n, .slice oa D.length cap] w (.tuple #[.agg #[.int .i64 0, .slice none 0 0], .bool false]) := by
  unfold Ans
  have hb := (Below.refl w.heap.size w).alloc (Nat.le_refl _) (.cells #[.int .i64 0, .slice none 0 0] 26)
  have kZ := Blk.new w #[.int .i64 0, .slice none 0 0] 26
  go_enter Try.func11, Try.ntmps11
  go_wp2_with fail
  refine Calls.mono (Ans.eqb (c_specAreDeps _ _ _ _ _ (hD.keep hb)) ha) ?_
  rintro e w1 ⟨rfl, hbn⟩
  replace kZ := kZ.keep hbn
  replace hb := bel_to hb hbn
  clear hbn
  have z0 := kZ.cell 0 (.int .i64 0) rfl
  have z1 := kZ.cell 1 (.slice none 0 0) rfl
  have f0 := kZ.free 0
  have f1 := kZ.free 1
  go_wp2
  exact bodyPost_ret (v := .tuple #[.agg #[.int .i64 0, .slice none 0 0], .bool false]) (by simp [results, Try.results11, go_sem, z0, z1]) rfl ⟨rfl, bel_set2 hb (Nat.le_refl _) _ _⟩
set_option maxHeartbeats 1600000 in
theorem c_specArmstrongTable_ok (N : Nat) (oa) (cap : Nat) (D : List (Int × Int)) (w : World) (hD : DepsAt w oa D) (ha : areDepsF N D = true) :
    Calls Try.prog 11 #[.int .i64 N, .slice oa D.length cap] w fun e w' => ∃ o c xs, e = .returned (.tuple #[.agg #[.int .i64 N, .slice o (armUpTo N (closedSetsF N D) (closedSetsF N D).length).length c], .bool true]) ∧ OwnRows w' w.heap.size (.slice o (armUpTo N (closedSetsF N D) (closedSetsF N D).length).length c) xs (armUpTo N (closedSetsF N D) (closedSetsF N D).length) ∧ Below w.heap.size w w' := by
  have hb := (Below.refl w.heap.size w).alloc (Nat.le_refl _) (.cells #[.int .i64 0, .slice none 0 0] 26)
  have kZ := Blk.new w #[.int .i64 0, .slice none 0 0] 26
  obtain ⟨hv, hn1, hn5, _⟩ := areDepsF_val ha
  have hN : N ≤ 5 := by omega
  obtain ⟨i0, hi, hz0, hz1, hz2⟩ := info_parts info_int
  obtain ⟨j0, hj, hy0, hy1, hy2⟩ := info_parts info_ints
  have hp := pow_wrap (n := (N : Int)) (by omega) hn5
  simp only [Int.toNat_natCast] at hp
  have hp1 := hp.1
  have hp2 := hp.2.1
  have hp3 := hp.2.2
  clear hp
  go_enter Try.func11, Try.ntmps11
  go_wp2_with fail
  refine Calls.mono (Ans.eqb (c_specAreDeps _ _ _ _ _ (hD.keep hb)) ha) ?_
  rintro e w1 ⟨rfl, hbn⟩
  replace kZ := kZ.keep hbn
  replace hb := bel_to hb hbn
  clear hbn
  have hz := kZ.lt
  have kT := Blk.new w1 #[.int .i64 N, .slice none 0 0] 26
  have hba := (Below.refl w1.heap.size w1).alloc (Nat.le_refl _) (.cells #[.int .i64 N, .slice none 0 0] 26)
  replace kZ := kZ.keep hba
  replace hb := bel_to hb hba
  clear hba
  have hmk : ∀ w' : World, (Instr.makeSlice 68 (.int .i64 N) (.int .i64 N)).run Try.prog w' = .ok (.slice (some ⟨w'.heap.size, 0, none⟩) N N) (w'.alloc (.cells (madeCells #[Value.int .i64 0] N) 3)) := fun w' => by
    have := run_make w' 68 3 i0 (.int .i64 0) Try.underlying68 hi hz0 .i64 .i64 N N (by omega) (by omega) (by rw [hz2]; omega) (by omega)
    rw [hz1] at this; simpa [Value.cells] using this
  go_upto_region 4 with fail
  generalize hwb : w1.alloc (.cells #[.int .i64 N, .slice none 0 0] 26) = wb at *
  have hkb : w1.heap.size < wb.heap.size := kT.lt
  clear hwb
  generalize w1.heap.size = k6 at *
  have q1 := kT.cell 1 (.slice none 0 0) rfl
  have q1d := kT.drew.cell 1 (.slice none 0 0) rfl
  have q1m := (kT.alloc (.cells (madeCells #[Value.int .i64 0] N) 3)).drew.cell 1 (.slice none 0 0) rfl
  have q1n := fun cs T => ((kT.alloc (.cells (madeCells #[Value.int .i64 0] N) 3)).alloc (.cells cs T)).drew.cell 1 (.slice none 0 0) rfl
  have hM := ctr_made wb N hN
  go_cut [] from 18 to 24 (fun wx => ∃ (o : Option Addr) (c : Nat) (xs : List Value), Blk wx k6 #[.int .i64 N, .slice o 1 c] 26 ∧ OwnRows wx (w.heap.size + 1) (.slice o 1 c) xs [List.replicate N 0] ∧ Avoid k6 (.slice o 1 c) xs ∧ Blk wx w.heap.size #[.int .i64 0, .slice none 0 0] 26 ∧ Below w.heap.size w wx)
  case first =>
    go_region_law (first
    | (refine step_append_held _ (by rfl) _ _ 24 (by rfl) (w.heap.size + 1) 68 j0 (.slice none 0 0) 1 24 Try.underlying24 hj hy0 hy1 hy2 rfl (by decide) (.slice none 0 0) 0 [] (by rfl) (World.ownsRow_nil _ _ _ _) _ 1 1 [.slice (some ⟨wb.heap.size, 0, none⟩) N N] (by rfl) rfl (World.news_of_block (cs := #[.slice (some ⟨wb.heap.size, 0, none⟩) N N]) (t := 68) (fr := (0, 0)) (by first | exact heap_two wb _ _ | exact heap_alloc_new _ _)) (by intro u hu; simp at hu; subst hu; rfl) (by unfold maxLen; omega) (by omega) (by simp; omega) ?_; intro v7 w7 hown _ hgrow hfr; obtain ⟨⟨o7, c7, rfl⟩, s7, t7, kT7, hO7, av7, hb7, hoth, hblk⟩ := tab_snoc (w := w) (w5 := wb.alloc (.cells (madeCells #[Value.int .i64 0] N) 3)) (P := []) (o := none) (c := 0) (xs := []) (C := List.replicate N 0) (nC := N) (by simp) (OwnRows.none _ _) (hM.based (show w.heap.size + 1 ≤ wb.heap.size by omega)) ⟨.inl rfl, fun y hy => absurd hy (by simp)⟩ (kT.alloc _) (fun y hy e => by rcases hy with rfl | hy; cases e; cases hy) (fun e => by simp [Value.ownBlock] at e; omega) (hb.alloc hb.size _) (Nat.le_succ _) (show w.heap.size ≤ k6 by omega) hown (drew_grown hgrow) (drew_fresh hfr); clear hown hgrow hfr)
    | fail)
    all_goals
      go_wp2_with fail
      go_meet
      exact ⟨o7, c7, _, kT7, hO7, av7, hblk _ _ _ (kZ.alloc _) (by omega) (by simp [Value.ownBlock]), hb7⟩
  case rest =>
    clear q1 q1d q1m q1n hM hmk kT kZ hb
    obtain ⟨o, c, xs, kT, hO, av, kZ, hb⟩ := hcut
    go_wp2_with fail
    refine (c_specClosedSets N oa cap D _ (hD.keep hb)).mono ?_
    rintro e w3 ⟨vL, rfl, hL, hbn⟩
    have hk6 : w.heap.size < k6 := by omega
    have avL : vL.ownBlock ≠ some k6 := fun e => by have := (World.ownsRow.lt hL _ e).1; have := kT.lt; omega
    have apL := (apart_old hO.outer hL).symm
    replace hL := hL.based (show w.heap.size + 1 ≤ _ by have := kT.lt; omega)
    replace hO := hO.keep hbn
    replace kT := kT.keep hbn
    replace kZ := kZ.keep hbn
    replace hb := bel_to hb hbn
    obtain ⟨oL, cL, rfl⟩ := hL.shape
    have hLl := closedSets_le N D
    have HST : Hid (∀ x ∈ closedSetsF N D, St x) := closedSets_st
    clear hbn
    generalize hA : closedSetsF N D = L at *
    have HA : Hid (closedSetsF N D = L) := hA
    clear hA
    go_wp2_with fail
    go_loopw [8] (fun i wr => ∃ (k : Nat), i = .int .i64 k ∧ k ≤ L.length ∧ ArmI N L (.slice oL L.length cL) k6 w k wr) (fun i _ => L.length - (intOf i).toNat)
    case atStart => exact ⟨0, rfl, Nat.zero_le _, _, c, _, kT, hO, av, hL, apL, kZ, hb⟩
    case round =>
      clear kT hO av hL apL kZ hb
      obtain ⟨k, rfl, hk, hArm⟩ := hrel
      have HSame : Hid ((nth L k == 2 ^ N - 1) = true → ArmI N L (.slice oL L.length cL) k6 w (k + 1) wr) := fun h => by
        have e := arm_succ N L k
        rw [h, if_pos rfl, List.append_nil] at e
        unfold ArmI at hArm ⊢
        rw [e]; exact hArm
      obtain ⟨o, c, xs, kT, hO, av, hL, apL, kZ, hb⟩ := hArm
      have HS : Hid (armUpTo N L (k + 1) = armUpTo N L k ++ (if (nth L k == 2 ^ N - 1) then [] else [rowForF N (nth L k) ((k : Int) + 1)])) := arm_succ N L k
      have hPl := arm_len N L k
      have HE : Hid (k = L.length → armUpTo N L k = armUpTo N L L.length) := fun e => by rw [e]
      have hxl := hO.len
      generalize armUpTo N L k = P at *
      have hkt := kT.lt
      by_cases hlt : k < L.length
      · have HX : Hid (St (nth L k)) := HST.out _ (nth_mem hlt)
        obtain ⟨b, off, rfl, hbs, hcell⟩ := (hL.ints rfl (by unfold Room; omega)).at_ (by omega)
        have hc1 := hcell k hlt
        clear hcell
        generalize nth L k = x at *
        have hsx := HX.out
        by_cases hx : x = 2 ^ N - 1
        · have hxd : (x == 2 ^ N - 1) = true := by simp [hx]
          have hxe : (x == allM N) = true := by unfold allM; simpa using hx
          go_wp2_with fail
          have hA1 := (show Hid _ from HSame.out hxd)
          (refine wp_region_after (by kernel_rfl) (by kernel_rfl) ?_; have q_hc1 := fun (x : After _) => cell_keep hc1 x.bel; (repeat (go_big_quiet_step ((go_at_call 80; exact Ans.after (c_l2All N (by omega) _))))); clear q_hc1; refine wpQuiet_nil ?_; rintro _ ⟨⟨w1, hbn⟩, rfl⟩; (try simp only [After.w]); replace hc1 := cell_keep hc1 hbn; replace hA1 := (show Hid _ from ArmI.keep hA1.out hbn); replace hb := bel_to (w := w) (by first | exact hb | exact hb.alloc hb.size _ | exact (hb.alloc hb.size _).alloc (Nat.le_trans hb.size (by simp)) _ | exact hb.setCell (by simp [hb.size]) _) hbn; clear hbn)
          go_wp2
          go_roundw
          case rel => exact ⟨k + 1, by go_num, by omega, hA1.out⟩
          case measure => simp [intOf]; omega
        · have hxd : (x == 2 ^ N - 1) = false := by simp [hx]
          have hxe : (x == allM N) = false := by unfold allM; simpa using hx
          go_wp2_with fail
          (refine wp_region_after (by kernel_rfl) (by kernel_rfl) ?_; have q_hc1 := fun (x : After _) => cell_keep hc1 x.bel; (repeat (go_big_quiet_step ((go_at_call 80; exact Ans.after (c_l2All N (by omega) _))))); clear q_hc1; refine wpQuiet_nil ?_; rintro _ ⟨⟨w1, hbn⟩, rfl⟩; (try simp only [After.w]); replace hc1 := cell_keep hc1 hbn; replace kT := kT.keep hbn; replace hO := hO.keep hbn; replace hL := OwnI.keep hL hbn; replace kZ := kZ.keep hbn; replace hb := bel_to (w := w) (by first | exact hb | exact hb.alloc hb.size _ | exact (hb.alloc hb.size _).alloc (Nat.le_trans hb.size (by simp)) _ | exact hb.setCell (by simp [hb.size]) _) hbn; clear hbn)
          obtain ⟨wq, hwq⟩ := Blk.world kT
          subst hwq
          have hkq := kT.lt
          go_wp2_with fail
          go_loopw [9, 10] (fun v i wi => ∃ j : Nat, i = .int .i64 j ∧ j ≤ N ∧ OwnI wi wq.heap.size v (rowForF j x ((k : Int) + 1)) ∧ Below wq.heap.size wq wi) (fun _ i _ => N - (intOf i).toNat)
          case atStart => exact ⟨0, rfl, Nat.zero_le _, OwnI.empty _ _ (Nat.le_refl _), (Below.refl _ _).alloc (Nat.le_refl _) _⟩
          case round =>
            obtain ⟨j, rfl, hjN, hI, hbl⟩ := hrel
            have hc2 := cell_keep hc1 hbl
            by_cases hjlt : j < N
            · have HR : Hid (rowForF (j + 1) x ((k : Int) + 1) = rowForF j x ((k : Int) + 1) ++ [if hasc x j then 0 else (k : Int) + 1]) := rowFor_succ j x _
              have hk64 : 0 ≤ (j : Int) ∧ (j : Int) < 64 := by omega
              have hbt := row_bit hsx (show j < 5 by omega)
              have hle := rowFor_len j x ((k : Int) + 1)
              generalize rowForF j x ((k : Int) + 1) = M at *
              cases hh : hasc x j
              · have hbt0 : bits BinOp.and .i64 (x / 2 ^ j) 1 = 0 := by rw [hbt, hh]; rfl
                clear hbt
                go_wp2_with (first | (at_builtin; refine wpList_append_own _ rfl _ _ 68 rfl wq.heap.size 3 i0 (.int .i64 0) 1 8 Try.underlying68 hi hz0 hz1 hz2 rfl (by decide) _ _ _ rfl (World.ownsRow.alloc hI _) _ 1 1 [.int .i64 ((k : Int) + 1)] rfl rfl (by intro j u hj; match j, hj with | 0, hj => simp at hj; subst hj; simp [Addr.add]) (by intro u hu; simp at hu; subst hu; rfl) (by unfold maxLen; omega) (by omega) (by have := hbl.size; simp; omega) ?_; intro v' w1 hown hgrow _; replace hbl := (hbl.alloc hbl.size _).grown hgrow (by have := hbl.size; simp; omega) (fun g hg => (World.ownsRow.lt hI g hg).1); replace hI := OwnI.snoc hown; clear hown hgrow) | fail)
                go_roundw
                case rel => exact ⟨j + 1, by go_num, by omega, by rw [HR.out, hh]; exact hI, hbl⟩
                case measure => simp [intOf]; omega
              · have hbt0 : bits BinOp.and .i64 (x / 2 ^ j) 1 = 1 := by rw [hbt, hh]; rfl
                clear hbt
                go_wp2_with (first | (at_builtin; refine wpList_append_own _ rfl _ _ 68 rfl wq.heap.size 3 i0 (.int .i64 0) 1 8 Try.underlying68 hi hz0 hz1 hz2 rfl (by decide) _ _ _ rfl (World.ownsRow.alloc hI _) _ 1 1 [.int .i64 (0)] rfl rfl (by intro j u hj; match j, hj with | 0, hj => simp at hj; subst hj; simp [Addr.add]) (by intro u hu; simp at hu; subst hu; rfl) (by unfold maxLen; omega) (by omega) (by have := hbl.size; simp; omega) ?_; intro v' w1 hown hgrow _; replace hbl := (hbl.alloc hbl.size _).grown hgrow (by have := hbl.size; simp; omega) (fun g hg => (World.ownsRow.lt hI g hg).1); replace hI := OwnI.snoc hown; clear hown hgrow) | fail)
                go_roundw
                case rel => exact ⟨j + 1, by go_num, by omega, by rw [HR.out, hh]; exact hI, hbl⟩
                case measure => simp [intOf]; omega
            · obtain rfl : j = N := by omega
              obtain ⟨o5, c5, hv5⟩ := hI.shape
              rw [rowFor_len] at hv5
              subst hv5
              have hO5 := hO.keep hbl
              have kT5 := kT.keep hbl
              have q1 := kT5.cell 1 (.slice o P.length c) rfl
              go_wp2_with (first | (at_builtin; refine wpList_append_fresh rfl _ _ 24 rfl (w.heap.size + 1) 68 j0 (.slice none 0 0) 1 24 Try.underlying24 hj hy0 hy1 hy2 rfl (by decide) _ _ _ rfl (World.ownsRow.alloc hO5.outer _) _ 1 1 [.slice o5 j c5] rfl rfl (World.news_of_block (cs := #[.slice o5 j c5]) (t := 68) (fr := (0, 0)) (heap_alloc_new _ _)) (by intro u hu; simp at hu; subst hu; rfl) (by unfold maxLen; omega) (by omega) (by have := hbl.size; simp; omega) ?_; intro v7 w7 hown hgrow hfr; obtain ⟨⟨o7, c7, rfl⟩, s7, t7, kT7, hO7, av7, hb7, hoth, hblk⟩ := tab_snoc (w := w) (rowFor_len j x ((k : Int) + 1)) hO5 (hI.based (show w.heap.size + 1 ≤ wq.heap.size by omega)) (OwnRows.fresh (w := wq) hO hI) kT5 av (fun e => by have := (World.ownsRow.lt hI _ e).1; omega) (bel_to hb hbl) (Nat.le_succ _) (show w.heap.size ≤ k6 by omega) hown hgrow hfr; clear hown hgrow hfr; obtain ⟨hL7, apL7⟩ := hoth _ _ _ _ _ _ (hL.keep hbl) apL avL; have kZ7 := hblk _ _ _ (kZ.keep hbl) (show w.heap.size ≠ k6 by omega) (fun e => by have := (World.ownsRow.lt hO.outer _ e).1; omega); have HR7 := (show Hid _ from ArmI.next (show armUpTo j L (k + 1) = P ++ [rowForF j x ((k : Int) + 1)] by rw [HS.out, hxd]; rfl) kT7 hO7 av7 hL7 apL7 kZ7 hb7); clear hL7 apL7 kZ7 kT7 hO7 av7 hoth hblk hb7) | fail)
              go_roundw
              case rel => exact ⟨k + 1, by go_num, by omega, HR7.out⟩
              case measure => simp [intOf]; omega
      · have hkk : k = L.length := by omega
        have HP := (show Hid _ from HE.out hkk)
        have r0 := kT.cell 0 (.int .i64 N) rfl
        have r1 := kT.cell 1 (.slice o P.length c) rfl
        have z0 := kZ.cell 0 (.int .i64 0) rfl
        have z1 := kZ.cell 1 (.slice none 0 0) rfl
        have f0 := kZ.free 0
        have f1 := kZ.free 1
        have k2 : Blk _ w.heap.size #[.int .i64 N, .slice o P.length c] 26 := (kZ.set 0 (.int .i64 N)).set 1 (.slice o P.length c)
        have q0 := k2.cell 0 (.int .i64 N) rfl
        have q1 := k2.cell 1 (.slice o P.length c) rfl
        clear hkk
        go_wp2
        refine bodyPost_ret (v := .tuple #[.agg #[.int .i64 N, .slice o P.length c], .bool true]) (by simp only [results, Try.results11]; simp [go_sem, q0, q1]) rfl ?_
        rw [HA.out, ← HP.out]
        exact ⟨o, c, xs, rfl, ((hO.far_set 0 (.int .i64 N) (Nat.lt_succ_self _)).far_set 1 (.slice o P.length c) (Nat.lt_succ_self _)).based (Nat.le_succ _), bel_set2 hb (Nat.le_refl _) _ _⟩
end Go.Proofs.Ytjbmpnbfiahdhaa
namespace Go.Proofs.Ytjbmpnbfiahdhaa
open Go.RowKit
set_option linter.unusedVariables false
set_option maxRecDepth 100000

def ctrO (n : Int) (D : List (Int × Int)) (l r : Int) : List (List Int) := if ctrF n D l r then ctrR n.toNat D l else []
def ctrN (n : Int) (D : List (Int × Int)) (l r : Int) : Int := if ctrF n D l r then n else 0
def CtrAns (f : FuncId) (n : Int) (oa : Option Addr) (cap : Nat) (D : List (Int × Int)) (l r : Int) (w : World) : Prop :=
  Calls Try.prog f #[.int .i64 n, .slice oa D.length cap, .agg #[.int .i64 l, .int .i64 r]] w fun e w' => ∃ o c xs, e = .returned (.tuple #[.agg #[.int .i64 (ctrN n D l r), .slice o (ctrO n D l r).length c], .bool (ctrF n D l r)]) ∧ OwnRows w' w.heap.size (.slice o (ctrO n D l r).length c) xs (ctrO n D l r) ∧ Below w.heap.size w w'
theorem ctr_pos {n : Int} {D : List (Int × Int)} {l r : Int} (h : ctrF n D l r = true) : ∃ N : Nat, n = N ∧ N ≤ 5 := by
  unfold ctrF at h
  simp only [Bool.and_eq_true] at h
  have := (areDepsF_val h.1)
  exact ⟨n.toNat, by omega, by omega⟩
theorem ctr_len (n : Int) (D : List (Int × Int)) (l r : Int) : (ctrO n D l r).length ≤ 2 := by unfold ctrO; split <;> simp [ctrR]
theorem ctr_row (n : Int) (D : List (Int × Int)) (l r : Int) {j : Nat} (hj : j < (ctrO n D l r).length) : (row (ctrO n D l r) j).length ≤ 5 := by
  unfold ctrO at hj ⊢
  cases h : ctrF n D l r
  · rw [h] at hj; simp at hj
  · obtain ⟨N, rfl, hN⟩ := ctr_pos h
    rw [h] at hj
    simp only [if_true, ctrR, Int.toNat_natCast] at hj ⊢
    match j, hj with
    | 0, _ => show (List.replicate N (0 : Int)).length ≤ 5; simp; exact hN
    | 1, _ => show (rowForF N _ 1).length ≤ 5; rw [rowFor_len]; exact hN
theorem c_CounterTable (n : Int) (oa) (cap : Nat) (D : List (Int × Int)) (l r : Int) (w : World) (hD : DepsAt w oa D) : CtrAns 34 n oa cap D l r w := by
  unfold CtrAns ctrN ctrO
  cases h : ctrF n D l r
  · refine (c_CounterTable_no n oa cap D l r w hD h).mono ?_
    rintro e w' ⟨rfl, hb⟩
    exact ⟨none, 0, [], rfl, OwnRows.none _ _, hb⟩
  · obtain ⟨N, rfl, hN⟩ := ctr_pos h
    refine (c_CounterTable_ok N oa cap D l r w hD h).mono ?_
    rintro e w' ⟨o, c, xs, rfl, hO, hb⟩
    exact ⟨o, c, xs, rfl, hO, hb⟩
end Go.Proofs.Ytjbmpnbfiahdhaa
namespace Go.Proofs.Ytjbmpnbfiahdhaa
open Go.RowKit
set_option linter.unusedVariables false
set_option maxRecDepth 100000

def OldR (S : Nat) (v : Value) (xs : List Value) : Prop := ∀ y, y = v ∨ y ∈ xs → ∀ g, y.ownBlock = some g → g < S
theorem OwnRows.old {w : World} {B S : Nat} {v : Value} {xs : List Value} {R : List (List Int)} (h : OwnRows w B v xs R) (hS : w.heap.size ≤ S) : OldR S v xs := by
  intro y hy g hg
  rcases hy with rfl | hy
  · exact Nat.lt_of_lt_of_le (World.ownsRow.lt h.outer g hg).2 hS
  · obtain ⟨j, _, o, c, e, h2, _⟩ := h.one hy
    exact Nat.lt_of_lt_of_le (World.ownsRow.lt h2 g hg).2 hS
theorem OwnRows.lowS {w : World} {B S : Nat} {v : Value} {xs : List Value} {R : List (List Int)} (h : OwnRows w B v xs R) (hS : S ≤ B) : ∀ y ∈ xs, ∀ g, y.ownBlock = some g → S ≤ g := by
  intro y hy g hg
  obtain ⟨j, _, o, c, e, h2, _⟩ := h.one hy
  exact Nat.le_trans hS (World.ownsRow.lt h2 g hg).1
theorem OwnRows.many {w w' : World} {B S : Nat} {v : Value} {xs vs : List Value} {R : List (List Int)} (h : OwnRows w B v xs R) (hg : GrownMany w w' vs) (hl : ∀ y ∈ vs, ∀ g, y.ownBlock = some g → S ≤ g) (ho : OldR S v xs) : OwnRows w' B v xs R := by
  have hap : ∀ u, u = v ∨ u ∈ xs → ∀ y ∈ vs, Apart u y := by
    intro u hu y hy
    cases e : u.ownBlock with
    | none => exact .inl e
    | some g => exact .inr fun e' => by have := ho u hu g e; have := hl y hy g (by rw [← e', e]); omega
  refine ⟨h.len, owns_many h.outer hg (hap v (.inl rfl)), fun j hj => ?_, h.pair⟩
  obtain ⟨o, c, h1, h2, h3⟩ := h.rows j hj
  exact ⟨o, c, h1, h2.many hg (hap _ (.inr (List.mem_iff_getElem?.2 ⟨j, h1⟩))), h3⟩
theorem ctr_sum (R : List (List Int)) (h : R.length ≤ 2) (hr : ∀ j, j < R.length → (row R j).length ≤ 5) : sumL R R.length ≤ 10 := by
  match R, h with
  | [], _ => simp [sumL]
  | [a], _ => have h0 := hr 0 (by simp); simp [sumL, row] at h0 ⊢; omega
  | [a, b], _ => have h0 := hr 0 (by simp); have h1 := hr 1 (by simp); simp [sumL, row] at h0 h1 ⊢; omega
theorem OwnRows.after {w w' : World} {B size n : Nat} {e : TypeId} {u v : Value} {ys xs : List Value} {R : List (List Int)} (h : OwnRows w' w.heap.size v xs R) (h' : w.ownsRow B e size u n ys) : ApartR v xs u :=
  ⟨(apart_old h' h.outer).symm, fun y hy => by obtain ⟨j, _, o, c, e, h2, _⟩ := h.one hy; exact (apart_old h' h2).symm⟩
theorem Blk.many {w w' : World} {k : Nat} {c : Array Value} {T : TypeId} {vs : List Value} (h : Blk w k c T) (hg : GrownMany w w' vs) (hn : ∀ y ∈ vs, y.ownBlock ≠ some k) : Blk w' k c T := (hg.block k h.lt hn).trans h
theorem OwnRows.readSeq {w : World} {B c : Nat} {oa : Option Addr} {xs : List Value} {R : List (List Int)} {k : Int} (h : OwnRows w B (.slice oa R.length c) xs (seqR k R)) (hR : R.length ≤ Room) (hr : ∀ j, j < R.length → (row R j).length ≤ Room) : RowsAt w oa (seqR k R) :=
  h.read (by rw [seqR_length]; exact hR) (fun j hj => by rw [seqR_length] at hj; rw [seqR_row hj, seqI_length]; exact hr j hj)
theorem OwnRows.baseLe {w : World} {B S : Nat} {v : Value} {xs : List Value} {R : List (List Int)} (_ : OwnRows w B v xs R) (h : S ≤ B) : S ≤ B := h
theorem sum_le {R : List (List Int)} {m : Nat} (h : ∀ j, j < R.length → (row R j).length ≤ m) : ∀ k, k ≤ R.length → sumL R k ≤ m * k
  | 0, _ => by simp [sumL]
  | k + 1, hk => by
    rw [sumL_succ (by omega), Nat.mul_succ]
    have := sum_le h k (by omega)
    have := h k (by omega)
    omega
end Go.Proofs.Ytjbmpnbfiahdhaa
namespace Go.Proofs.Ytjbmpnbfiahdhaa
open Go.RowKit
set_option linter.unusedVariables false
set_option maxRecDepth 100000

theorem arm_pos {n : Int} {D : List (Int × Int)} (h : areDepsF n D = true) : ∃ N : Nat, n = N ∧ N ≤ 5 := by
  have := areDepsF_val h
  exact ⟨n.toNat, by omega, by omega⟩
theorem arm_rows_len (n : Int) (D : List (Int × Int)) : (armO n D).length ≤ 33 := by
  unfold armO
  split
  · have := arm_len n.toNat (closedSetsF n D) (closedSetsF n D).length
    have := closedSets_le n D
    omega
  · simp
theorem arm_row (n : Int) (D : List (Int × Int)) {j : Nat} (hj : j < (armO n D).length) : (row (armO n D) j).length ≤ 5 := by
  have hm := row_mem hj
  unfold armO at hm
  split at hm
  · next h =>
    obtain ⟨N, rfl, hN⟩ := arm_pos h
    have e := arm_rows (Int.toNat N) _ _ hm
    unfold armO
    rw [if_pos h, e]
    simpa using hN
  · cases hm
theorem c_ArmstrongTable (n : Int) (oa) (cap : Nat) (D : List (Int × Int)) (w : World) (hD : DepsAt w oa D) : ArmAns 13 n oa cap D w := by
  unfold ArmAns armN armO
  cases h : areDepsF n D
  · refine (c_ArmstrongTable_no n oa cap D w hD h).mono ?_
    rintro e w' ⟨rfl, hb⟩
    exact ⟨none, 0, [], rfl, OwnRows.none _ _, hb⟩
  · obtain ⟨N, rfl, hN⟩ := arm_pos h
    refine (c_ArmstrongTable_ok N oa cap D w hD h).mono ?_
    rintro e w' ⟨o, c, xs, rfl, hO, hb⟩
    exact ⟨o, c, xs, rfl, hO, hb⟩
theorem c_specArmstrongTable (n : Int) (oa) (cap : Nat) (D : List (Int × Int)) (w : World) (hD : DepsAt w oa D) : ArmAns 11 n oa cap D w := by
  unfold ArmAns armN armO
  cases h : areDepsF n D
  · refine (c_specArmstrongTable_no n oa cap D w hD h).mono ?_
    rintro e w' ⟨rfl, hb⟩
    exact ⟨none, 0, [], rfl, OwnRows.none _ _, hb⟩
  · obtain ⟨N, rfl, hN⟩ := arm_pos h
    refine (c_specArmstrongTable_ok N oa cap D w hD h).mono ?_
    rintro e w' ⟨o, c, xs, rfl, hO, hb⟩
    exact ⟨o, c, xs, rfl, hO, hb⟩
end Go.Proofs.Ytjbmpnbfiahdhaa
namespace Go.Proofs.Ytjbmpnbfiahdhaa
open Go.RowKit
set_option linter.unusedVariables false
set_option maxRecDepth 100000

set_option maxHeartbeats 3200000 in
theorem w_FnExactArmstrongTable (w : World) (n : Int) (wfn : (Lit.int .i64 n).wf = true) {v : Value} (hv : InDeps w v) :
    Calls Try.prog 3 #[.int .i64 n, v] w fun e w' => e = .returned (.bool true) ∧ Below w.heap.size w w' := by
  obtain ⟨a, len, cap, rfl, hm, hD0⟩ := hv
  have hb := Below.refl w.heap.size w
  by_cases hbig : (1048576 : Int) < len
  · go_enter Try.func3, Try.ntmps3
    go_wp2_with (first | (go_at_call 10; refine Calls.mono (c_szDepS_no _ _ _ _ (by omega) hbig hm _) ?_; rintro e w1 ⟨rfl, hbn⟩; replace hb := bel_to (w := w) (by first | exact hb | exact hb.alloc hb.size _ | exact (hb.alloc hb.size _).alloc (Nat.le_trans hb.size (by simp)) _ | exact hb.setCell (by simp [hb.size]) _) hbn; clear hbn))
    go_ret
    exact ⟨rfl, hb⟩
  obtain ⟨D, rfl, hD⟩ := hD0 (room_of (by omega))
  have hle : (D.length : Int) ≤ 1048576 := by omega
  have hr := hD.len
  clear hbig
  have HLN := arm_rows_len n D
  have HRW : Hid (∀ j, j < (armO n D).length → (row (armO n D) j).length ≤ 5) := fun j hj => arm_row n D hj
  have HSP : Hid (∀ oa cap w, DepsAt w oa D → ArmAns 11 n oa cap D w) := fun oa cap w h => c_specArmstrongTable n oa cap D w h
  have HIM : Hid (∀ oa cap w, DepsAt w oa D → ArmAns 13 n oa cap D w) := fun oa cap w h => c_ArmstrongTable n oa cap D w h
  unfold ArmAns at HSP HIM
  generalize armO n D = R at *
  generalize areDepsF n D = t at *
  generalize armN n D = m at *
  have hR2 : R.length ≤ Room := by unfold Room; omega
  have HRr : Hid (∀ j, j < R.length → (row R j).length ≤ Room) := fun j hj => Nat.le_trans (HRW.out j hj) (by unfold Room; omega)
  have HSM : Hid (sumL R R.length ≤ 165) := by have := sum_le HRW.out R.length (Nat.le_refl _); show _ ≤ _; omega
  have htt : (t != t) = false := by simp
  go_enter Try.func3, Try.ntmps3
  go_wp2_with fail
  refine (c_szDepS_ok _ _ _ _ (by omega) hle _).mono ?_
  rintro e w0 ⟨rfl, hbn⟩
  replace hb := bel_to hb hbn
  clear hbn
  have hdec : decide ((1048576 : Int) - (D.length : Int) < 0) = false := by simp; omega
  go_wp2_with fail
  refine (c_toDepS _ _ D _ (hD.keep hb)).mono ?_
  rintro e w1 ⟨v1, rfl, h1, hbn⟩
  obtain ⟨o1, c1, rfl, hL1⟩ := h1.reads hr
  clear h1
  replace hb := bel_to hb hbn
  clear hbn
  go_wp2_with fail
  refine (HSP.out _ _ _ hL1).mono ?_
  rintro e w2 ⟨o8, c8, xs8, rfl, hO8, hbn⟩
  clear hL1
  replace hO8 := hO8.based hb.size
  replace hb := bel_to hb hbn
  clear hbn
  have k8T := Blk.new w2 #[.int .i64 m, .slice o8 R.length c8] 26
  have hbn := (Below.refl w2.heap.size w2).alloc (Nat.le_refl _) (.cells #[.int .i64 m, .slice o8 R.length c8] 26)
  replace hO8 := hO8.keep hbn
  replace hb := bel_to hb hbn
  clear hbn
  go_wp2_with fail
  refine (c_toDepS _ _ D _ (hD.keep hb)).mono ?_
  rintro e w3 ⟨v1, rfl, xD, hbn⟩
  have ap8 := hO8.fresh xD
  have nx8 : v1.ownBlock ≠ some w2.heap.size := fun e => by have := (World.ownsRow.lt xD _ e).1; have := k8T.lt; omega
  have hbx := hb.size
  replace hO8 := hO8.keep hbn
  replace k8T := k8T.keep hbn
  replace hb := bel_to hb hbn
  clear hbn
  obtain ⟨o1, c1, rfl⟩ := xD.shape
  go_wp2_with fail
  have hbz := hb.size
  refine (HIM.out _ _ _ (xD.deps rfl hr)).mono ?_
  rintro e w4 ⟨o11, c11, xs11, rfl, hO11, hbn⟩
  have hOld := hO8.old (Nat.le_refl _)
  have ap11 := hO11.after xD
  have hlt8 := k8T.lt
  have hlow11 := hO11.low
  have hold11 := hO11.old (Nat.le_refl _)
  have hb3 := hbn.size
  replace hO8 := hO8.keep hbn
  replace k8T := k8T.keep hbn
  replace xD := xD.keep hbn
  replace hb := bel_to hb hbn
  clear hbn
  have nx11 : (Value.slice o1 D.length c1).ownBlock ≠ some w4.heap.size := fun e => by have := (World.ownsRow.lt xD _ e).2; omega
  have k11 := Blk.new w4 #[.int .i64 m, .slice o11 R.length c11] 26
  have hbn := (Below.refl w4.heap.size w4).alloc (Nat.le_refl _) (.cells #[.int .i64 m, .slice o11 R.length c11] 26)
  replace hO8 := hO8.keep hbn
  replace k8T := k8T.keep hbn
  replace xD := xD.keep hbn
  replace hO11 := hO11.keep hbn
  replace hb := bel_to hb hbn
  clear hbn
  have p0 := k11.cell 0 (.int .i64 m) rfl
  have p1 := k11.cell 1 (.slice o11 R.length c11) rfl
  have q0 := k8T.cell 0 (.int .i64 m) rfl
  have q1 := k8T.cell 1 (.slice o8 R.length c8) rfl
  go_wp2_with fail
  refine Calls.mono (Ans.eqb (b' := true) (c_eqTable m _ _ _ _ R _ (hO11.read hR2 HRr.out) (hO8.read hR2 HRr.out)) (by simp)) ?_
  rintro e w5 ⟨rfl, hbn⟩
  replace hO8 := hO8.keep hbn
  replace k8T := k8T.keep hbn
  replace xD := xD.keep hbn
  replace hO11 := hO11.keep hbn
  replace k11 := k11.keep hbn
  replace hb := bel_to hb hbn
  clear hbn
  clear p0 p1 q0 q1
  go_wp2_with fail
  refine (c_toDepS _ _ D _ (hD.keep hb)).mono ?_
  rintro e w6 ⟨v5, rfl, tD, hbn⟩
  replace hO8 := hO8.keep hbn
  replace k8T := k8T.keep hbn
  replace xD := xD.keep hbn
  replace hO11 := hO11.keep hbn
  replace k11 := k11.keep hbn
  replace hb := bel_to hb hbn
  clear hbn
  obtain ⟨o5, c5, rfl⟩ := tD.shape
  go_wp2_with fail
  refine Calls.mono (Ans.eqb (b' := true) (c_eqDepS _ _ _ _ _ _ _ (xD.deps rfl hr) (tD.deps rfl hr)) (by simp)) ?_
  rintro e w7 ⟨rfl, hbn⟩
  clear tD
  replace hO8 := hO8.keep hbn
  replace k8T := k8T.keep hbn
  replace xD := xD.keep hbn
  replace hO11 := hO11.keep hbn
  replace k11 := k11.keep hbn
  replace hb := bel_to hb hbn
  clear hbn
  go_wp2_with fail
  refine Calls.mono (c_markDepS _ _ _ _ _ (by omega) _ hr xD) ?_
  rintro e w8 ⟨rfl, hm7, hg⟩
  replace hb := below_mark hb (xD.based hbx) hg
  replace k8T := k8T.grown hg (fun e => nx8 e.symm)
  replace k11 := k11.grown hg (fun e => nx11 e.symm)
  replace hO8 := hO8.far hg ap8
  replace hO11 := hO11.far hg ap11
  clear hg hm7 xD nx8 nx11 ap8 ap11
  have hk0 : decide (1 + 2 * (D.length : Int) < 0) = false := by simp; omega
  have p0 := k11.cell 0 (.int .i64 m) rfl
  have p1 := k11.cell 1 (.slice o11 R.length c11) rfl
  have q0 := k8T.cell 0 (.int .i64 m) rfl
  have q1 := k8T.cell 1 (.slice o8 R.length c8) rfl
  go_wp2_with fail
  refine Calls.mono (Ans.eqb (b' := true) (c_eqTable m _ _ _ _ R _ (hO11.read hR2 HRr.out) (hO8.read hR2 HRr.out)) (by simp)) ?_
  rintro e w9 ⟨rfl, hbn⟩
  replace hO8 := hO8.keep hbn
  replace k8T := k8T.keep hbn
  replace hO11 := hO11.keep hbn
  replace k11 := k11.keep hbn
  replace hb := bel_to hb hbn
  clear hbn
  clear p0 p1 q0 q1
  have p0 := k11.cell 0 (.int .i64 m) rfl
  have p1 := k11.cell 1 (.slice o11 R.length c11) rfl
  go_wp2_with fail
  refine Calls.mono (c_markTable m _ _ _ _ R 1 _ hO11 hR2 (by have := HSM.out; omega)) ?_
  rintro e w10 ⟨rfl, hO11, hg⟩
  replace hb := below_many hb (Nat.le_refl _) hg (fun y hy g e => by have := hlow11 y hy g e; omega)
  replace k8T := k8T.many hg (fun y hy e => by have := hlow11 y hy _ e; omega)
  replace k11 := k11.many hg (fun y hy e => absurd (hold11 y (.inr hy) _ e) (Nat.lt_irrefl _))
  replace hO8 := hO8.many hg hlow11 hOld
  clear hg p0 p1
  have hs0 : decide ((1 : Int) + (sumL R R.length : Int) < 0) = false := by simp; omega
  have hs1 : ((1 : Int) + (sumL R R.length : Int) != 1 + (sumL R R.length : Int)) = false := by simp
  have p0 := k11.cell 0 (.int .i64 m) rfl
  have p1 := k11.cell 1 (.slice o11 R.length c11) rfl
  go_wp2_with fail
  refine Calls.mono (c_heldTable m _ _ R 1 _ (hO11.readSeq hR2 HRr.out) (by have := HSM.out; omega)) ?_
  rintro e w11 ⟨rfl, hbn⟩
  replace hO8 := hO8.keep hbn
  replace k8T := k8T.keep hbn
  replace hO11 := hO11.keep hbn
  replace k11 := k11.keep hbn
  replace hb := bel_to hb hbn
  clear hbn
  clear p0 p1
  go_wp2_with fail
  refine (c_toDepS _ _ D _ (hD.keep hb)).mono ?_
  rintro e w12 ⟨v1, rfl, h1, hbn⟩
  obtain ⟨o1, c1, rfl, hL1⟩ := h1.reads hr
  clear h1
  replace hO8 := hO8.keep hbn
  replace k8T := k8T.keep hbn
  replace hO11 := hO11.keep hbn
  replace k11 := k11.keep hbn
  replace hb := bel_to hb hbn
  clear hbn
  go_wp2_with fail
  refine (HIM.out _ _ _ hL1).mono ?_
  rintro e w13 ⟨o6, c6, xs6, rfl, hO6, hbn⟩
  clear hL1
  replace hO6 := hO6.based hb.size
  replace hO8 := hO8.keep hbn
  replace k8T := k8T.keep hbn
  replace hO11 := hO11.keep hbn
  replace k11 := k11.keep hbn
  replace hb := bel_to hb hbn
  clear hbn
  have k6T := Blk.new w13 #[.int .i64 m, .slice o6 R.length c6] 26
  have hbn := (Below.refl w13.heap.size w13).alloc (Nat.le_refl _) (.cells #[.int .i64 m, .slice o6 R.length c6] 26)
  replace hO8 := hO8.keep hbn
  replace k8T := k8T.keep hbn
  replace hO11 := hO11.keep hbn
  replace k11 := k11.keep hbn
  replace hO6 := hO6.keep hbn
  replace hb := bel_to hb hbn
  clear hbn
  have r0 := k6T.cell 0 (.int .i64 m) rfl
  have r1 := k6T.cell 1 (.slice o6 R.length c6) rfl
  have q0 := k8T.cell 0 (.int .i64 m) rfl
  have q1 := k8T.cell 1 (.slice o8 R.length c8) rfl
  go_wp2_with fail
  refine Calls.mono (Ans.eqb (b' := true) (c_eqTable m _ _ _ _ R _ (hO6.read hR2 HRr.out) (hO8.read hR2 HRr.out)) (by simp)) ?_
  rintro e w14 ⟨rfl, hbn⟩
  replace hO8 := hO8.keep hbn
  replace k8T := k8T.keep hbn
  replace hO11 := hO11.keep hbn
  replace k11 := k11.keep hbn
  replace hO6 := hO6.keep hbn
  replace k6T := k6T.keep hbn
  replace hb := bel_to hb hbn
  clear hbn
  clear r0 r1 q0 q1
  have p0 := k11.cell 0 (.int .i64 m) rfl
  have p1 := k11.cell 1 (.slice o11 R.length c11) rfl
  go_wp2_with fail
  refine Calls.mono (c_heldTable m _ _ R 1 _ (hO11.readSeq hR2 HRr.out) (by have := HSM.out; omega)) ?_
  rintro e w15 ⟨rfl, hbn⟩
  replace hO8 := hO8.keep hbn
  replace k8T := k8T.keep hbn
  replace hO11 := hO11.keep hbn
  replace k11 := k11.keep hbn
  replace hO6 := hO6.keep hbn
  replace k6T := k6T.keep hbn
  replace hb := bel_to hb hbn
  clear hbn
  clear p0 p1
  go_wp2
  go_ret
  exact ⟨rfl, hb⟩
end Go.Proofs.Ytjbmpnbfiahdhaa
