/- Contracts and lemmas for FnClosures, part 4 of 6. -/
import Derived.Test.YtjbmpnbfiahdhaaQFnClosures1
import Derived.Test.YtjbmpnbfiahdhaaQFnClosures2
import Derived.Test.YtjbmpnbfiahdhaaQFnClosures3
import Derived.Deep.RegionHeld3
import Derived.Deep.RegionLaw
import Derived.IntWalk
import Derived.ProofKit
import Derived.OpenShut
import Derived.Lib.SmallJoins
import Derived.Deep.SlicePairs
import Derived.Deep.Matrix
import Derived.Deep.AppendLies
namespace Go.Proofs.Ytjbmpnbfiahdhaa
open Go.RowKit
set_option linter.unusedVariables false
set_option maxRecDepth 100000

def candF (N k : Nat) : Int × Int := (nth (partsF N) (k / N), ((k % N : Nat) : Int))
def covS (F : List (Int × Int)) (x r : Int) : Bool := F.any fun o => (o.2 == r) && ins o.1 x
def stepF (R : List (List Int)) (m : Int) (N k : Nat) (z : List (Int × Int) × Int) : List (Int × Int) × Int :=
  if hasc (candF N k).1 (candF N k).2 || covS z.1 (candF N k).1 (candF N k).2 then z else (if holdsF R m (candF N k).1 (candF N k).2 then z.1 ++ [((candF N k).1, (candF N k).2)] else z.1, z.2 + 1)
def repF (R : List (List Int)) (m : Int) (N : Nat) : Nat → List (Int × Int) × Int
  | 0 => ([], 0)
  | k + 1 => stepF R m N k (repF R m N k)
theorem parts_full {N : Nat} (hN : N ≤ 5) : (partsF N).length = 2 ^ N := by
  unfold partsF
  rw [if_pos ⟨by omega, by omega⟩, Int.toNat_natCast]
  unfold valS sortS finsB
  simp
theorem cand_ok {N k : Nat} (hN : N ≤ 5) (h1 : 1 ≤ N) (hk : k < N * 2 ^ N) : k / N < (partsF N).length ∧ St (candF N k).1 ∧ Co (candF N k).2 ∧ (candF N k).1 < 2 ^ N ∧ (candF N k).2 < N := by
  have h2 : k / N < (partsF N).length := by
    rw [parts_full hN]
    exact Nat.div_lt_of_lt_mul hk
  have hm := List.mem_iff_getElem?.2 ⟨k / N, nth_eq h2⟩
  have h3 := (partsF_mem (n := (N : Int)) (by omega) (by omega)).1 hm
  have h4 := (pow_wrap (n := (N : Int)) (by omega) (by omega)).2.1
  rw [Int.toNat_natCast] at h3 h4
  have h5 := Nat.mod_lt k (show 0 < N by omega)
  have e5 : St (candF N k).1 := ⟨h3.1, by show nth (partsF N) (k / N) < 32; omega⟩
  have e6 : Co (candF N k).2 := ⟨by show 0 ≤ ((k % N : Nat) : Int); omega, by show ((k % N : Nat) : Int) < 5; omega⟩
  exact ⟨h2, e5, e6, h3.2, by show ((k % N : Nat) : Int) < N; omega⟩
theorem rep_ok {R : List (List Int)} {m : Int} {N : Nat} (hN : N ≤ 5) (h1 : 1 ≤ N) : ∀ k, k ≤ N * 2 ^ N → (∀ o ∈ (repF R m N k).1, St o.1 ∧ Co o.2) ∧ (repF R m N k).1.length ≤ k ∧ 0 ≤ (repF R m N k).2 ∧ (repF R m N k).2 ≤ k
  | 0, _ => ⟨(fun o ho => by cases ho), Nat.le_refl _, Int.le_refl _, Int.le_refl _⟩
  | k + 1, hk => by
    obtain ⟨i1, i2, i3, i4⟩ := rep_ok (R := R) (m := m) hN h1 k (by omega)
    obtain ⟨_, c1, c2, _⟩ := cand_ok hN h1 (show k < N * 2 ^ N by omega)
    show (∀ o ∈ (stepF R m N k (repF R m N k)).1, St o.1 ∧ Co o.2) ∧ (stepF R m N k (repF R m N k)).1.length ≤ k + 1 ∧ 0 ≤ (stepF R m N k (repF R m N k)).2 ∧ (stepF R m N k (repF R m N k)).2 ≤ (k + 1 : Nat)
    unfold stepF
    split
    · exact ⟨i1, by omega, i3, by omega⟩
    · split
      · refine ⟨fun o ho => ?_, by rw [List.length_append]; simp; omega, by omega, by simp; omega⟩
        rcases List.mem_append.1 ho with h | h
        · exact i1 o h
        · rw [List.mem_singleton.1 h]; exact ⟨c1, c2⟩
      · exact ⟨i1, by show (repF R m N k).1.length ≤ k + 1; omega, by show 0 ≤ (repF R m N k).2 + 1; omega, by show (repF R m N k).2 + 1 ≤ ((k + 1 : Nat) : Int); omega⟩
theorem count_le {N : Nat} (hN : N ≤ 5) : N * 2 ^ N ≤ 160 := by
  have h : ∀ N < 6, N * 2 ^ N ≤ 160 := by decide
  exact h N (by omega)
theorem c_candidatesOf (N : Nat) (hN : N ≤ 5) (w : World) : Ans Try.prog 101 #[.int .i64 N] w (.int .i64 ((N * 2 ^ N : Nat) : Int)) := by
  unfold Ans
  have h : ∀ N < 6, wrap64 (((N : Nat) : Int) * 2 ^ N) = ((N * 2 ^ N : Nat) : Int) := by decide +kernel
  have h0 := h N (by omega)
  go_enter Try.func101, Try.ntmps101
  go_wp2
  go_ret
  exact ⟨ret_int (by simpa using h0), Below.refl _ _⟩
theorem c_l8Count (N : Nat) (hN : N ≤ 5) (w : World) : Ans Try.prog 97 #[.int .i64 N] w (.int .i64 ((N * 2 ^ N : Nat) : Int)) := by
  unfold Ans
  have h : ∀ N < 6, wrap64 (((N : Nat) : Int) * 2 ^ N) = ((N * 2 ^ N : Nat) : Int) := by decide +kernel
  have h0 := h N (by omega)
  go_enter Try.func97, Try.ntmps97
  go_wp2
  go_ret
  exact ⟨ret_int (by simpa using h0), Below.refl _ _⟩
set_option maxHeartbeats 800000 in
theorem c_candidate (N k : Nat) (hN : N ≤ 5) (h1 : 1 ≤ N) (hk : k < N * 2 ^ N) (w : World) :
    Ans Try.prog 167 #[.int .i64 N, .int .i64 k] w (.agg #[.int .i64 (candF N k).1, .int .i64 (candF N k).2]) := by
  unfold Ans
  obtain ⟨hlt, hst, hco, _, _⟩ := cand_ok hN h1 hk
  have hk160 := count_le hN
  have hpl := partsF_len N
  have hp0 : 0 < (partsF N).length := Nat.lt_of_le_of_lt (Nat.zero_le _) hlt
  obtain ⟨x, hx⟩ : ∃ x, x = (candF N k).1 := ⟨_, rfl⟩
  obtain ⟨r, hr⟩ : ∃ r, r = (candF N k).2 := ⟨_, rfl⟩
  rw [← hx, ← hr]
  obtain ⟨q, hq⟩ : ∃ q, q = k / N := ⟨_, rfl⟩
  have hx2 : x = nth (partsF N) q := by rw [hx, hq]; rfl
  have hr2 : r = (k : Int) % (N : Int) := by rw [hr]; show ((k % N : Nat) : Int) = _; exact Int.natCast_emod k N
  have hn0 : 0 < N := by omega
  have e1 : (k : Int).tdiv (N : Int) = (q : Int) := by rw [Int.tdiv_eq_ediv_of_nonneg (by omega), hq]; exact (Int.natCast_ediv k N).symm
  have e2 : (k : Int).tmod (N : Int) = r := by rw [Int.tmod_eq_emod_of_nonneg (by omega), hr2]
  have e3 : (k : Int) / (N : Int) = (q : Int) := by rw [hq]; exact (Int.natCast_ediv k N).symm
  rw [← hq] at hlt
  have hq160 : q ≤ 32 := by omega
  have hr1 : 0 ≤ r ∧ r < 5 := by rw [hr]; exact ⟨hco.1, hco.2⟩
  have hr5 := hr1.1
  have hr6 := hr1.2
  have HR2 : Hid (r = (k : Int) % (N : Int)) := hr2
  have HX2 : Hid (nth (partsF N) q = x) := hx2.symm
  have e4 : (k : Int) % (N : Int) = r := hr2.symm
  have e5 : IntKind.i64.wrap (q : Int) = (q : Int) := IntWalk.i64_in _ (by omega)
  have e6 : IntKind.i64.wrap r = r := IntWalk.i64_in _ (by omega)
  have e7 : ((N : Int) == 0) = false := by simp; omega
  have e8 : ¬ N = 0 := by omega
  clear hx hr hx2 hr2 hst hco hr1 hq
  have hb := (Below.refl w.heap.size w).alloc (Nat.le_refl _) (.cells #[.int .i64 0, .int .i64 0] 55)
  have kR := Blk.new w #[.int .i64 0, .int .i64 0] 55
  go_enter Try.func167, Try.ntmps167
  go_wp2_with fail
  go_region_with ((refine (c_PartsBySize (N : Int) _).mono ?_; rintro e w1 ⟨v, rfl, hP, hbn⟩; obtain ⟨o1, c1, rfl⟩ := hP.shape; obtain ⟨b2, off2, rfl, hbs2, hca⟩ := (hP.ints rfl (by unfold Room; omega)).at_ hp0; have hc2 := hca _ hlt; rw [HX2.out] at hc2; have kR1 := kR.drew.keep hbn; have r0 := kR1.cell 0 (.int .i64 0) rfl; have r1 := kR1.cell 1 (.int .i64 0) rfl; have q0 := kR1.free 0; have q1 := kR1.free 1; clear hca kR1))
  have hb1 := bel_to hb.drew hbn
  clear hbn hP hb kR
  go_wp2
  exact bodyPost_ret (v := .agg #[.int .i64 x, .int .i64 r]) (by simp [results, Try.results167, go_sem, r0, r1]) rfl ⟨rfl, Below.setCell (p := (⟨w.heap.size, 1, none⟩ : Addr)) (Below.setCell (p := (⟨w.heap.size, 0, none⟩ : Addr)) hb1 (Nat.le_refl _) _) (Nat.le_refl _) _⟩
set_option maxHeartbeats 800000 in
theorem c_l8Dep (N k : Nat) (hN : N ≤ 5) (h1 : 1 ≤ N) (hk : k < N * 2 ^ N) (w : World) :
    Ans Try.prog 163 #[.int .i64 N, .int .i64 k] w (.agg #[.int .i64 (candF N k).1, .int .i64 (candF N k).2]) := by
  unfold Ans
  obtain ⟨hlt, hst, hco, _, _⟩ := cand_ok hN h1 hk
  have hk160 := count_le hN
  have hpl := partsF_len N
  have hp0 : 0 < (partsF N).length := Nat.lt_of_le_of_lt (Nat.zero_le _) hlt
  obtain ⟨x, hx⟩ : ∃ x, x = (candF N k).1 := ⟨_, rfl⟩
  obtain ⟨r, hr⟩ : ∃ r, r = (candF N k).2 := ⟨_, rfl⟩
  rw [← hx, ← hr]
  obtain ⟨q, hq⟩ : ∃ q, q = k / N := ⟨_, rfl⟩
  have hx2 : x = nth (partsF N) q := by rw [hx, hq]; rfl
  have hr2 : r = (k : Int) % (N : Int) := by rw [hr]; show ((k % N : Nat) : Int) = _; exact Int.natCast_emod k N
  have hn0 : 0 < N := by omega
  have e1 : (k : Int).tdiv (N : Int) = (q : Int) := by rw [Int.tdiv_eq_ediv_of_nonneg (by omega), hq]; exact (Int.natCast_ediv k N).symm
  have e2 : (k : Int).tmod (N : Int) = r := by rw [Int.tmod_eq_emod_of_nonneg (by omega), hr2]
  have e3 : (k : Int) / (N : Int) = (q : Int) := by rw [hq]; exact (Int.natCast_ediv k N).symm
  rw [← hq] at hlt
  have hq160 : q ≤ 32 := by omega
  have hr1 : 0 ≤ r ∧ r < 5 := by rw [hr]; exact ⟨hco.1, hco.2⟩
  have hr5 := hr1.1
  have hr6 := hr1.2
  have HR2 : Hid (r = (k : Int) % (N : Int)) := hr2
  have HX2 : Hid (nth (partsF N) q = x) := hx2.symm
  have e4 : (k : Int) % (N : Int) = r := hr2.symm
  have e5 : IntKind.i64.wrap (q : Int) = (q : Int) := IntWalk.i64_in _ (by omega)
  have e6 : IntKind.i64.wrap r = r := IntWalk.i64_in _ (by omega)
  have e7 : ((N : Int) == 0) = false := by simp; omega
  have e8 : ¬ N = 0 := by omega
  clear hx hr hx2 hr2 hst hco hr1 hq
  have hb := (Below.refl w.heap.size w).alloc (Nat.le_refl _) (.cells #[.int .i64 0, .int .i64 0] 55)
  have kR := Blk.new w #[.int .i64 0, .int .i64 0] 55
  go_enter Try.func163, Try.ntmps163
  go_wp2_with fail
  refine (c_specPartsBySize (N : Int) _).mono ?_
  rintro e w1 ⟨v, rfl, hP, hbn⟩
  obtain ⟨o1, c1, rfl⟩ := hP.shape
  obtain ⟨b2, off2, rfl, hbs2, hca⟩ := (hP.ints rfl (by unfold Room; omega)).at_ hp0
  have hc2 := hca _ hlt
  rw [HX2.out] at hc2
  have kR1 := kR.keep hbn
  have r0 := kR1.cell 0 (.int .i64 0) rfl
  have r1 := kR1.cell 1 (.int .i64 0) rfl
  have q0 := kR1.free 0
  have q1 := kR1.free 1
  have hb1 := bel_to hb hbn
  clear hca kR1 hbn hP hb kR
  go_wp2_with fail
  go_region_with (fail)
  go_wp2
  exact bodyPost_ret (v := .agg #[.int .i64 x, .int .i64 r]) (by simp [results, Try.results163, go_sem, r0, r1]) rfl ⟨rfl, Below.setCell (p := (⟨w.heap.size, 1, none⟩ : Addr)) (Below.setCell (p := (⟨w.heap.size, 0, none⟩ : Addr)) hb1.drew (Nat.le_refl _) _) (Nat.le_refl _) _⟩
end Go.Proofs.Ytjbmpnbfiahdhaa
namespace Go.Proofs.Ytjbmpnbfiahdhaa
open Go.ChangeShapes Go.WideShapes Go.ChangeAt Go.RowKit
set_option linter.unusedVariables false
set_option maxRecDepth 100000

theorem open_ints {H : Type} {enc : TypeId × Value → H} {W : World} {base : Nat} {held : Bool} {v : Value} {d : DataW H} {ps : List MemPlace} (hok : Value.okWide Try.prog W .any base 68 v)
    (h : DataW.Trod enc Try.prog W 0 (fun _ => true) held 68 v d ps) : InInts W v := by
  obtain ⟨a0, len0, cap0, rfl⟩ := okWide_slice Try.underlying68 hok
  obtain ⟨fuel, hf⟩ := h
  rcases Go.ChangeShapes.open_ints Try.underlying68 Try.underlying3 (by kernel_rfl) hf with ⟨hcs, _⟩ | ⟨x, l, c, zs, hcs, _, hl, hm, hz, _, hcell, hwz⟩
  · simp [Value.cells] at hcs
    obtain ⟨rfl, rfl, rfl⟩ := hcs
    exact ⟨_, _, _, [], rfl, .inl ⟨rfl, rfl, rfl, rfl⟩⟩
  · simp [Value.cells] at hcs
    obtain ⟨rfl, rfl, rfl⟩ := hcs
    exact ⟨_, _, _, zs, rfl, .inr ⟨_, rfl, hl, hm, by simpa using hz, hcell, hwz⟩⟩
end Go.Proofs.Ytjbmpnbfiahdhaa
namespace Go.Proofs.Ytjbmpnbfiahdhaa
open Go.ChangeShapes Go.WideShapes Go.ChangeAt Go.RowKit Go.Joins
set_option linter.unusedVariables false
set_option maxRecDepth 100000

theorem add_at (b off j : Nat) : (⟨b, off, none⟩ : Addr).add j = ⟨b, off + j, none⟩ := by unfold Addr.add; split <;> simp_all

theorem open_deps {H : Type} {enc : TypeId × Value → H} {W : World} {base : Nat} {held : Bool} {v : Value} {d : DataW H} {ps : List MemPlace} (hok : Value.okWide Try.prog W .any base 22 v)
    (h : DataW.Trod enc Try.prog W 0 (fun _ => true) held 22 v d ps) : InDeps W v := by
  obtain ⟨a0, len0, cap0, rfl⟩ := okWide_slice Try.underlying22 hok
  obtain ⟨fuel, hf⟩ := h
  rcases Go.Deep.open_slice_pairs Try.underlying22 Try.underlying104 (by kernel_rfl) rfl rfl (by kernel_rfl) (by kernel_rfl) hf with ⟨hcs, _⟩ | ⟨x, l, c, m, n, V0, V1, D0, D1, P0, P1, hcs, _, hl, hm, hmm, _, hcell⟩
  · simp [Value.cells] at hcs
    obtain ⟨rfl, rfl, rfl⟩ := hcs
    exact ⟨_, _, _, rfl, Nat.zero_le _, fun _ => ⟨[], rfl, by simp, fun h => absurd h (by simp)⟩⟩
  · simp [Value.cells] at hcs
    obtain ⟨rfl, rfl, rfl⟩ := hcs
    simp only [if_true] at hmm
    subst hmm
    refine ⟨_, _, _, rfl, Nat.le_trans hl hm, fun hr => ?_⟩
    have each : ∀ i, i < len0 → ∃ q : Int × Int, V0 i = .int .i64 q.1 ∧ V1 i = .int .i64 q.2 := by
      intro i hi
      obtain ⟨_, _, t0, t1⟩ := hcell i (by omega)
      obtain ⟨z0, e0, _⟩ := DataW.trod_int Try.underlying3 t0
      obtain ⟨z1, e1, _⟩ := DataW.trod_int Try.underlying3 t1
      simp at e0 e1
      exact ⟨(z0, z1), e0, e1⟩
    obtain ⟨q, hq⟩ := Go.Deep.choose_lt each
    refine ⟨(List.range len0).map q, by simp, by simpa using hr, fun h0 => ?_⟩
    simp only [List.length_map, List.length_range] at h0
    obtain ⟨b, off, spot⟩ := x
    have hc := (hcell 0 (by omega)).1
    have hspot : spot = none := by simpa [Addr.add] using World.cell?_spot hc
    subst hspot
    refine ⟨b, off, rfl, World.block_lt_of_cell? W ⟨b, off, none⟩ (by simpa [Addr.add] using hc), fun k hk => ?_⟩
    simp only [List.length_map, List.length_range] at hk
    obtain ⟨c0, c1, _⟩ := hcell k (by omega)
    rw [add_at] at c0 c1
    obtain ⟨e0, e1⟩ := hq k hk
    rw [e0] at c0
    rw [e1] at c1
    rw [Nat.add_assoc, c0, c1]
    have e : ((List.range len0).map q).getD k (0, 0) = q k := by simp [List.getD, hk]
    unfold nl nr
    rw [e]; exact ⟨rfl, rfl⟩

theorem open_dep {H : Type} {enc : TypeId × Value → H} {W : World} {base : Nat} {held : Bool} {v : Value} {d : DataW H} {ps : List MemPlace} (hok : Value.okWide Try.prog W .any base 104 v)
    (h : DataW.Trod enc Try.prog W 0 (fun _ => true) held 104 v d ps) : ∃ l r : Int, v = .agg #[.int .i64 l, .int .i64 r] ∧ (Lit.int .i64 l).wf = true ∧ (Lit.int .i64 r).wf = true := by
  obtain ⟨c0, c1, y0, y1, m, rfl, rfl, rfl, hy0, hy1⟩ := open_agg2 Try.underlying104 (by kernel_rfl) (by kernel_rfl) hok h
  obtain ⟨z0, e0, _, w0⟩ := DataW.trod_int Try.underlying3 hy0
  obtain ⟨z1, e1, _, w1⟩ := DataW.trod_int Try.underlying3 hy1
  simp at e0 e1
  subst e0 e1
  exact ⟨_, _, rfl, w0, w1⟩
end Go.Proofs.Ytjbmpnbfiahdhaa
namespace Go.Proofs.Ytjbmpnbfiahdhaa
open Go.ChangeShapes Go.WideShapes Go.ChangeAt Go.RowKit Go.Joins
set_option linter.unusedVariables false
set_option maxRecDepth 100000

def InTab (w : World) (v : Value) : Prop := ∃ (n : Int) (oa : Option Addr) (l c : Nat) (Ln : Nat → Nat), v = .agg #[.int .i64 n, .slice oa l c] ∧ RowsIn w oa l Ln
theorem open_table {H : Type} {enc : TypeId × Value → H} {W : World} {base : Nat} {held : Bool} {v : Value} {d : DataW H} {ps : List MemPlace} (hok : Value.okWide Try.prog W .any base 36 v)
    (h : DataW.Trod enc Try.prog W 0 (fun _ => true) held 36 v d ps) : InTab W v := by
  obtain ⟨c0, c1, y0, y1, m, rfl, rfl, rfl, hy0, hy1⟩ := open_agg2 Try.underlying36 (by kernel_rfl) (by kernel_rfl) hok h
  obtain ⟨z0, e0, _, w0⟩ := DataW.trod_int Try.underlying3 hy0
  simp at e0
  subst e0
  rcases Go.Deep.open_int_rows Try.underlying24 Try.underlying68 Try.underlying3 (by kernel_rfl) (by kernel_rfl) hy1 with ⟨hcs, _⟩ | ⟨a, len, cap, A, L, C, Z, hcs, _, hl, hm, _, hr⟩
  · simp at hcs
    subst hcs
    exact ⟨_, _, _, _, fun _ => 0, rfl, Nat.zero_le _, fun h => absurd h (by simp)⟩
  · simp at hcs
    subst hcs
    refine ⟨_, _, _, _, L, rfl, Nat.le_trans hl hm, fun h0 => ?_⟩
    obtain ⟨b, off, spot⟩ := a
    have hc := (hr 0 (by omega)).1
    have hspot : spot = none := by simpa [Addr.add] using World.cell?_spot hc
    subst hspot
    refine ⟨b, off, rfl, World.block_lt_of_cell? W ⟨b, off, none⟩ (by simpa [Addr.add] using hc), fun r hrl => ?_⟩
    obtain ⟨h1, h2, h3, h4, h5, h6, h7⟩ := hr r (by omega)
    rw [add_at] at h1
    refine ⟨Nat.le_trans h2 h3, A r, C r, h1, fun hroom => ?_⟩
    refine IsRow.ints (cap := C r) (zs := Z r) ?_ hroom
    cases hA : A r with
    | none =>
      have hz : C r = 0 := h6 hA
      refine .inl ⟨rfl, by omega, hz, List.eq_nil_of_length_eq_zero (by omega)⟩
    | some a' =>
      obtain ⟨_, hcell⟩ := h7 a' hA
      exact .inr ⟨a', rfl, h2, h3, h4, fun i hi => hcell i (by omega), h5⟩
theorem RowsIn.keep {w w' : World} {oa : Option Addr} {l : Nat} {Ln : Nat → Nat} (h : RowsIn w oa l Ln) (hk : Below w.heap.size w w') : RowsIn w' oa l Ln :=
  ⟨h.len, fun h0 => by
    obtain ⟨b, off, e, hlt, hr⟩ := h.rows h0
    exact ⟨b, off, e, Nat.lt_of_lt_of_le hlt hk.size, fun r hrl => by
      obtain ⟨m, o, c, h1, h2⟩ := hr r hrl
      exact ⟨m, o, c, cell_keep h1 hk, fun hq => by
        obtain ⟨L, e1, e2⟩ := h2 hq
        exact ⟨L, e1, e2.keep hk⟩⟩⟩⟩
end Go.Proofs.Ytjbmpnbfiahdhaa
namespace Go.Proofs.Ytjbmpnbfiahdhaa
open Go.ChangeShapes Go.WideShapes Go.ChangeAt Go.RowKit Go.Joins
set_option linter.unusedVariables false
set_option maxRecDepth 100000

theorem deps_of_trod {H : Type} {enc : TypeId × Value → H} {W : World} {held : Bool} {fuel : Nat} {v : Value} {x : DataW H × List MemPlace} (hf : DataW.trod enc Try.prog W 0 (fun _ => true) held fuel 22 [v] = some x) : InDeps W v := by
  rcases Go.Deep.open_slice_pairs Try.underlying22 Try.underlying104 (by kernel_rfl) rfl rfl (by kernel_rfl) (by kernel_rfl) hf with ⟨hcs, _⟩ | ⟨x, l, c, m, n, V0, V1, D0, D1, P0, P1, hcs, _, hl, hm, hmm, _, hcell⟩
  · simp at hcs
    subst hcs
    exact ⟨_, _, _, rfl, Nat.zero_le _, fun _ => ⟨[], rfl, by simp, fun h => absurd h (by simp)⟩⟩
  · simp at hcs
    subst hcs
    simp only [if_true] at hmm
    subst hmm
    refine ⟨_, _, _, rfl, Nat.le_trans hl hm, fun hr => ?_⟩
    have each : ∀ i, i < l → ∃ q : Int × Int, V0 i = .int .i64 q.1 ∧ V1 i = .int .i64 q.2 := by
      intro i hi
      obtain ⟨_, _, t0, t1⟩ := hcell i (by omega)
      obtain ⟨z0, e0, _⟩ := DataW.trod_int Try.underlying3 t0
      obtain ⟨z1, e1, _⟩ := DataW.trod_int Try.underlying3 t1
      simp at e0 e1
      exact ⟨(z0, z1), e0, e1⟩
    obtain ⟨q, hq⟩ := Go.Deep.choose_lt each
    refine ⟨(List.range l).map q, by simp, by simpa using hr, fun h0 => ?_⟩
    simp only [List.length_map, List.length_range] at h0
    obtain ⟨b, off, spot⟩ := x
    have hc := (hcell 0 (by omega)).1
    have hspot : spot = none := by simpa [Addr.add] using World.cell?_spot hc
    subst hspot
    refine ⟨b, off, rfl, World.block_lt_of_cell? W ⟨b, off, none⟩ (by simpa [Addr.add] using hc), fun k hk => ?_⟩
    simp only [List.length_map, List.length_range] at hk
    obtain ⟨c0, c1, _⟩ := hcell k (by omega)
    rw [add_at] at c0 c1
    obtain ⟨e0, e1⟩ := hq k hk
    rw [e0] at c0
    rw [e1] at c1
    rw [Nat.add_assoc, c0, c1]
    have e : ((List.range l).map q).getD k (0, 0) = q k := by simp [List.getD, hk]
    unfold nl nr
    rw [e]; exact ⟨rfl, rfl⟩
theorem rows_of_trod {H : Type} {enc : TypeId × Value → H} {W : World} {held : Bool} {fuel : Nat} {v : Value} {x : DataW H × List MemPlace} (hy1 : DataW.trod enc Try.prog W 0 (fun _ => true) held fuel 24 [v] = some x) : ∃ (oa : Option Addr) (l c : Nat) (Ln : Nat → Nat), v = .slice oa l c ∧ RowsIn W oa l Ln := by
  rcases Go.Deep.open_int_rows Try.underlying24 Try.underlying68 Try.underlying3 (by kernel_rfl) (by kernel_rfl) hy1 with ⟨hcs, _⟩ | ⟨a, len, cap, A, L, C, Z, hcs, _, hl, hm, _, hr⟩
  · simp at hcs
    subst hcs
    exact ⟨_, _, _, fun _ => 0, rfl, Nat.zero_le _, fun h => absurd h (by simp)⟩
  · simp at hcs
    subst hcs
    refine ⟨_, _, _, L, rfl, Nat.le_trans hl hm, fun h0 => ?_⟩
    obtain ⟨b, off, spot⟩ := a
    have hc := (hr 0 (by omega)).1
    have hspot : spot = none := by simpa [Addr.add] using World.cell?_spot hc
    subst hspot
    refine ⟨b, off, rfl, World.block_lt_of_cell? W ⟨b, off, none⟩ (by simpa [Addr.add] using hc), fun r hrl => ?_⟩
    obtain ⟨h1, h2, h3, h4, h5, h6, h7⟩ := hr r (by omega)
    rw [add_at] at h1
    refine ⟨Nat.le_trans h2 h3, A r, C r, h1, fun hroom => ?_⟩
    refine IsRow.ints (cap := C r) (zs := Z r) ?_ hroom
    cases hA : A r with
    | none =>
      have hz : C r = 0 := h6 hA
      refine .inl ⟨rfl, by omega, hz, List.eq_nil_of_length_eq_zero (by omega)⟩
    | some a' =>
      obtain ⟨_, hcell⟩ := h7 a' hA
      exact .inr ⟨a', rfl, h2, h3, h4, fun i hi => hcell i (by omega), h5⟩
def InSr (w : World) (v : Value) : Prop := ∃ (n m a t : Int) (oa : Option Addr) (l c : Nat) (Ln : Nat → Nat) (vD : Value), v = .agg #[.int .i64 n, .slice oa l c, .int .i64 m, .int .i64 a, vD, .int .i64 t] ∧ RowsIn w oa l Ln ∧ InDeps w vD
  ∧ (Lit.int .i64 m).wf = true ∧ (Lit.int .i64 a).wf = true ∧ (Lit.int .i64 t).wf = true
theorem open_search {H : Type} {enc : TypeId × Value → H} {W : World} {base : Nat} {held : Bool} {v : Value} {d : DataW H} {ps : List MemPlace} (hok : Value.okWide Try.prog W .any base 47 v)
    (h : DataW.Trod enc Try.prog W 0 (fun _ => true) held 47 v d ps) : InSr W v := by
  obtain ⟨cs, rfl, hsz⟩ := okWide_struct Try.underlying47 hok
  obtain ⟨l⟩ := cs
  have hC : Try.prog.cellsOf 47 = 6 := by kernel_rfl
  match l, hsz.trans hC with
  | [v0, v1, v2, v3, v4, v5], _ =>
    obtain ⟨fuel, hf⟩ := h
    obtain ⟨xs, n, _, hx, _, hlen, hg⟩ := DataW.trod_struct Try.underlying47 hf
    match xs, hlen with
    | [y0, y1, y2, y3, y4], _ =>
      have g0 := hg 0 _ rfl
      have g1 := hg 1 _ rfl
      have g2 := hg 2 _ rfl
      have g3 := hg 3 _ rfl
      have g4 := hg 4 _ rfl
      have ci : Try.prog.cellsOf 3 = 1 := by kernel_rfl
      have ct : Try.prog.cellsOf 36 = 2 := by kernel_rfl
      have cd : Try.prog.cellsOf 22 = 1 := by kernel_rfl
      simp [Value.cells, ci, ct, cd] at g0 g1 g2 g3 g4
      obtain ⟨zs, k, _, _, _, hzl, hz⟩ := DataW.trod_struct Try.underlying36 g0
      match zs, hzl with
      | [z0, z1], _ =>
        have q0 := hz 0 _ rfl
        have q1 := hz 1 _ rfl
        have cr : Try.prog.cellsOf 24 = 1 := by kernel_rfl
        simp [ci, cr] at q0 q1
        obtain ⟨i0, e0, _, w0⟩ := DataW.trod_int Try.underlying3 q0
        obtain ⟨i1, e1, _, w1⟩ := DataW.trod_int Try.underlying3 g1
        obtain ⟨i2, e2, _, w2⟩ := DataW.trod_int Try.underlying3 g2
        obtain ⟨i4, e4, _, w4⟩ := DataW.trod_int Try.underlying3 g4
        simp at e0 e1 e2 e4
        subst e0 e1 e2 e4
        obtain ⟨oa, lr, cr, Ln, rfl, hR⟩ := rows_of_trod q1
        exact ⟨_, _, _, _, _, _, _, _, _, rfl, hR, deps_of_trod g3, w1, w2, w4⟩
end Go.Proofs.Ytjbmpnbfiahdhaa
namespace Go.Proofs.Ytjbmpnbfiahdhaa
open Go.RowKit
set_option linter.unusedVariables false
set_option maxRecDepth 100000

theorem c_szIntSSg (oa) (n cap : Nat) (Ln : Nat → Nat) (left : Int) (hl0 : 0 ≤ left) (hl1 : left ≤ 1048576) (w : World) (h : RowsIn w oa n Ln) :
    Calls Try.prog 88 #[.slice oa n cap, .int .i64 left] w fun e w' => (∃ x : Int, e = .returned (.int .i64 x) ∧ (x = -1 ∨ (0 ≤ x ∧ x ≤ left ∧ (n : Int) + sumN Ln n + x = left))) ∧ Below w.heap.size w w' := by
  have hn := h.len
  unfold maxLen at hn
  by_cases hbig : left < n
  · go_enter Try.func88, Try.ntmps88
    go_wp2
    go_ret
    exact ⟨⟨_, rfl, .inl rfl⟩, Below.refl _ _⟩
  go_enter Try.func88, Try.ntmps88
  go_wp2
  go_loopw [1, 5] (fun l i wr => ∃ (x : Int) (k : Nat), l = .int .i64 x ∧ i = .int .i64 k ∧ k ≤ n ∧ 0 ≤ x ∧ x ≤ left ∧ x + (n : Int) + sumN Ln k = left ∧ Below w.heap.size w wr) (fun _ i _ => n - (intOf i).toNat)
  case atStart => exact ⟨_, 0, rfl, rfl, Nat.zero_le _, by omega, by omega, by simp [sumN], Below.refl _ _⟩
  case round =>
    obtain ⟨x, k, rfl, rfl, hk, hx0, hx1, hall, hb⟩ := hrel
    have HA : Hid (x + (n : Int) + sumN Ln k = left) := hall
    have HS : Hid (sumN Ln (k + 1) = sumN Ln k + Ln k) := sumN_succ Ln k
    clear hall
    have hx2 : x ≤ 1048576 := by omega
    by_cases hlt : k < n
    · obtain ⟨b, off, rfl, hbs, hc⟩ := h.rows (by omega)
      obtain ⟨hm, o, c, hc0, _⟩ := hc k hlt
      have hc1 := cell_keep hc0 hb
      clear hc hc0
      by_cases hle : (Ln k : Int) ≤ x
      · have e : (if (Ln k : Int) ≤ x then x - Ln k else -1) = x - Ln k := if_pos hle
        go_wp2_with fail
        refine (show Ans _ _ _ _ (.int .i64 (x - Ln k)) from e ▸ c_szIntS _ _ _ _ ⟨hx0, hx2⟩ hm _).mono ?_
        rintro en w1 ⟨rfl, hbn⟩
        replace hb := bel_to hb hbn
        clear hbn e
        go_wp2
        go_roundw
        case rel => exact ⟨x - Ln k, k + 1, rfl, by go_num, by omega, by omega, by omega, (by have h1 := HA.out; have h2 := HS.out; omega), hb⟩
        case measure => simp [intOf]; omega
      · have e : (if (Ln k : Int) ≤ x then x - Ln k else -1) = -1 := if_neg hle
        go_wp2_with fail
        refine (show Ans _ _ _ _ (.int .i64 (-1)) from e ▸ c_szIntS _ _ _ _ ⟨hx0, hx2⟩ hm _).mono ?_
        rintro en w1 ⟨rfl, hbn⟩
        replace hb := bel_to hb hbn
        clear hbn e
        go_wp2
        go_ret
        exact ⟨⟨_, rfl, .inl rfl⟩, hb⟩
    · have hkk : k = n := by omega
      have HK : Hid (k = n) := hkk
      clear hkk
      go_wp2
      go_ret
      exact ⟨⟨_, rfl, .inr ⟨hx0, by omega, (by have h1 := HA.out; have h2 := HK.out; rw [h2] at h1; omega)⟩⟩, hb⟩
theorem c_szTableg (n : Int) (oa) (l cap : Nat) (Ln : Nat → Nat) (left : Int) (hl0 : 0 ≤ left) (hl1 : left ≤ 1048576) (w : World) (h : RowsIn w oa l Ln) :
    Calls Try.prog 19 #[.agg #[.int .i64 n, .slice oa l cap], .int .i64 left] w fun e w' => (∃ x : Int, e = .returned (.int .i64 x) ∧ (x = -1 ∨ (0 ≤ x ∧ x ≤ left ∧ (l : Int) + sumN Ln l + x = left))) ∧ Below w.heap.size w w' := by
  have hb := (Below.refl w.heap.size w).alloc (Nat.le_refl _) (.cells #[.int .i64 n, .slice oa l cap] 36)
  go_enter Try.func19, Try.ntmps19
  go_wp2_with fail
  refine (c_szIntSSg _ _ _ _ left hl0 hl1 _ (h.keep hb)).mono ?_
  rintro e w1 ⟨⟨x, rfl, hx⟩, hbn⟩
  replace hb := bel_to hb hbn
  clear hbn
  rcases hx with rfl | ⟨h0, h1, h3⟩
  · go_wp2
    go_ret
    exact ⟨⟨_, rfl, .inl rfl⟩, hb⟩
  · have H3 : Hid ((l : Int) + sumN Ln l + x = left) := h3
    clear h3
    go_wp2
    go_ret
    exact ⟨⟨_, rfl, .inr ⟨h0, h1, H3.out⟩⟩, hb⟩
theorem c_szSearch (n m a t : Int) (oa) (l cap : Nat) (Ln : Nat → Nat) (od) (ld cd : Nat) (left : Int) (hl0 : 0 ≤ left) (hl1 : left ≤ 1048576) (w : World) (h : RowsIn w oa l Ln) (hmD : ld ≤ maxLen) :
    Calls Try.prog 26 #[.agg #[.int .i64 n, .slice oa l cap, .int .i64 m, .int .i64 a, .slice od ld cd, .int .i64 t], .int .i64 left] w fun e w' => (∃ x : Int, e = .returned (.int .i64 x) ∧ (x = -1 ∨ (0 ≤ x ∧ x ≤ left ∧ (l : Int) + sumN Ln l ≤ left ∧ (ld : Int) ≤ left))) ∧ Below w.heap.size w w' := by
  have hb := (Below.refl w.heap.size w).alloc (Nat.le_refl _) (.cells #[.int .i64 n, .slice oa l cap, .int .i64 m, .int .i64 a, .slice od ld cd, .int .i64 t] 47)
  have b4 := box_at w #[.int .i64 n, .slice oa l cap, .int .i64 m, .int .i64 a, .slice od ld cd, .int .i64 t] 47 4 _ rfl
  go_enter Try.func26, Try.ntmps26
  go_wp2_with fail
  refine (c_szTableg n _ _ _ _ left hl0 hl1 _ (h.keep hb)).mono ?_
  rintro e w1 ⟨⟨x, rfl, hx⟩, hbn⟩
  replace b4 := cell_keep b4 hbn
  replace hb := bel_to hb hbn
  clear hbn
  rcases hx with rfl | ⟨h0, h1, h3⟩
  · go_wp2
    go_ret
    exact ⟨⟨_, rfl, .inl rfl⟩, hb⟩
  · have H3 : Hid ((l : Int) + sumN Ln l + x = left) := h3
    clear h3
    have hx1 : x ≤ 1048576 := by omega
    by_cases big : x < (ld : Int)
    · go_wp2_with fail
      refine Calls.mono (c_szDepS_no _ _ _ _ ⟨h0, hx1⟩ big hmD _) ?_
      rintro e w2 ⟨rfl, hbn⟩
      replace hb := bel_to hb hbn
      clear hbn
      go_wp2
      go_ret
      exact ⟨⟨_, rfl, .inl rfl⟩, hb⟩
    · have hy0 : 0 ≤ x - (ld : Int) := by omega
      go_wp2_with fail
      refine Calls.mono (c_szDepS_ok _ _ _ _ hx1 (by omega) _) ?_
      rintro e w2 ⟨rfl, hbn⟩
      replace hb := bel_to hb hbn
      clear hbn
      go_wp2
      go_ret
      exact ⟨⟨_, rfl, .inr ⟨by omega, by omega, by have := H3.out; omega, by have := H3.out; omega⟩⟩, hb⟩
theorem c_eqSearch (A B : Sr) (oa ob fa fb) (ca cb fca fcb : Nat) (w : World) (hA : RowsAt w oa A.R) (hB : RowsAt w ob B.R) (hC : DepsAt w fa A.F) (hD : DepsAt w fb B.F) (e : A = B) :
    Ans Try.prog 23 #[.agg #[.int .i64 A.n, .slice oa A.R.length ca, .int .i64 A.m, .int .i64 A.a, .slice fa A.F.length fca, .int .i64 A.t], .agg #[.int .i64 B.n, .slice ob B.R.length cb, .int .i64 B.m, .int .i64 B.a, .slice fb B.F.length fcb, .int .i64 B.t]] w (.bool true) := by
  subst e
  unfold Ans
  have hb := bel2 w (.cells #[.int .i64 A.n, .slice oa A.R.length ca, .int .i64 A.m, .int .i64 A.a, .slice fa A.F.length fca, .int .i64 A.t] 39) (.cells #[.int .i64 A.n, .slice ob A.R.length cb, .int .i64 A.m, .int .i64 A.a, .slice fb A.F.length fcb, .int .i64 A.t] 39)
  have x2 := two_a w #[.int .i64 A.n, .slice oa A.R.length ca, .int .i64 A.m, .int .i64 A.a, .slice fa A.F.length fca, .int .i64 A.t] 39 #[.int .i64 A.n, .slice ob A.R.length cb, .int .i64 A.m, .int .i64 A.a, .slice fb A.F.length fcb, .int .i64 A.t] 39 2 _ rfl
  have x3 := two_a w #[.int .i64 A.n, .slice oa A.R.length ca, .int .i64 A.m, .int .i64 A.a, .slice fa A.F.length fca, .int .i64 A.t] 39 #[.int .i64 A.n, .slice ob A.R.length cb, .int .i64 A.m, .int .i64 A.a, .slice fb A.F.length fcb, .int .i64 A.t] 39 3 _ rfl
  have x4 := two_a w #[.int .i64 A.n, .slice oa A.R.length ca, .int .i64 A.m, .int .i64 A.a, .slice fa A.F.length fca, .int .i64 A.t] 39 #[.int .i64 A.n, .slice ob A.R.length cb, .int .i64 A.m, .int .i64 A.a, .slice fb A.F.length fcb, .int .i64 A.t] 39 4 _ rfl
  have x5 := two_a w #[.int .i64 A.n, .slice oa A.R.length ca, .int .i64 A.m, .int .i64 A.a, .slice fa A.F.length fca, .int .i64 A.t] 39 #[.int .i64 A.n, .slice ob A.R.length cb, .int .i64 A.m, .int .i64 A.a, .slice fb A.F.length fcb, .int .i64 A.t] 39 5 _ rfl
  have y2 := two_b w #[.int .i64 A.n, .slice oa A.R.length ca, .int .i64 A.m, .int .i64 A.a, .slice fa A.F.length fca, .int .i64 A.t] 39 #[.int .i64 A.n, .slice ob A.R.length cb, .int .i64 A.m, .int .i64 A.a, .slice fb A.F.length fcb, .int .i64 A.t] 39 2 _ rfl
  have y3 := two_b w #[.int .i64 A.n, .slice oa A.R.length ca, .int .i64 A.m, .int .i64 A.a, .slice fa A.F.length fca, .int .i64 A.t] 39 #[.int .i64 A.n, .slice ob A.R.length cb, .int .i64 A.m, .int .i64 A.a, .slice fb A.F.length fcb, .int .i64 A.t] 39 3 _ rfl
  have y4 := two_b w #[.int .i64 A.n, .slice oa A.R.length ca, .int .i64 A.m, .int .i64 A.a, .slice fa A.F.length fca, .int .i64 A.t] 39 #[.int .i64 A.n, .slice ob A.R.length cb, .int .i64 A.m, .int .i64 A.a, .slice fb A.F.length fcb, .int .i64 A.t] 39 4 _ rfl
  have y5 := two_b w #[.int .i64 A.n, .slice oa A.R.length ca, .int .i64 A.m, .int .i64 A.a, .slice fa A.F.length fca, .int .i64 A.t] 39 #[.int .i64 A.n, .slice ob A.R.length cb, .int .i64 A.m, .int .i64 A.a, .slice fb A.F.length fcb, .int .i64 A.t] 39 5 _ rfl
  have e1 : (A.m != A.m) = false := by simp
  have e2 : (A.a != A.a) = false := by simp
  have e3 : (A.t != A.t) = false := by simp
  go_enter Try.func23, Try.ntmps23
  go_wp2_with (first | (go_at_call 14; refine Calls.mono (c_eqTable _ _ _ _ _ _ _ (hA.keep hb) (hB.keep hb)) ?_; rintro e w1 ⟨rfl, hbn⟩; replace x2 := cell_keep x2 hbn; replace x3 := cell_keep x3 hbn; replace x4 := cell_keep x4 hbn; replace x5 := cell_keep x5 hbn; replace y2 := cell_keep y2 hbn; replace y3 := cell_keep y3 hbn; replace y4 := cell_keep y4 hbn; replace y5 := cell_keep y5 hbn; replace hb := bel_to (w := w) (by first | exact hb | exact hb.alloc hb.size _ | exact (hb.alloc hb.size _).alloc (Nat.le_trans hb.size (by simp)) _ | exact hb.setCell (by simp [hb.size]) _) hbn; clear hbn) | (go_at_call 15; refine Calls.mono (Ans.eqb (b' := true) (c_eqDepS _ _ _ _ _ _ _ (hC.keep hb) (hD.keep hb)) (by simp)) ?_; rintro e w1 ⟨rfl, hbn⟩; replace x2 := cell_keep x2 hbn; replace x3 := cell_keep x3 hbn; replace x4 := cell_keep x4 hbn; replace x5 := cell_keep x5 hbn; replace y2 := cell_keep y2 hbn; replace y3 := cell_keep y3 hbn; replace y4 := cell_keep y4 hbn; replace y5 := cell_keep y5 hbn; replace hb := bel_to (w := w) (by first | exact hb | exact hb.alloc hb.size _ | exact (hb.alloc hb.size _).alloc (Nat.le_trans hb.size (by simp)) _ | exact hb.setCell (by simp [hb.size]) _) hbn; clear hbn) | fail)
  go_ret
  exact ⟨rfl, hb⟩
def set8 (w : World) (g k : Nat) (a4 a5 b0 b1 b2 b3 b4 b5 : Value) : World := (((((((w.setCell ⟨g, 4, none⟩ a4).setCell ⟨g, 5, none⟩ a5).setCell ⟨k, 0, none⟩ b0).setCell ⟨k, 1, none⟩ b1).setCell ⟨k, 2, none⟩ b2).setCell ⟨k, 3, none⟩ b3).setCell ⟨k, 4, none⟩ b4).setCell ⟨k, 5, none⟩ b5
theorem far8 {w : World} {B : Nat} {v : Value} {xs : List Value} {R : List (List Int)} (h : OwnRows w B v xs R) {g k : Nat} (hg : g < B) (hk : k < B) (a4 a5 b0 b1 b2 b3 b4 b5 : Value) : OwnRows (set8 w g k a4 a5 b0 b1 b2 b3 b4 b5) B v xs R :=
  (((((((h.far_set 4 a4 hg).far_set 5 a5 hg).far_set 0 b0 hk).far_set 1 b1 hk).far_set 2 b2 hk).far_set 3 b3 hk).far_set 4 b4 hk).far_set 5 b5 hk
theorem OwnD.far_set {w : World} {B g : Nat} {v : Value} {D : List (Int × Int)} (h : OwnD w B v D) (j : Nat) (u : Value) (hg : g < B) : OwnD (w.setCell ⟨g, j, none⟩ u) B v D := ownsRow_setCell_below h (a := ⟨g, j, none⟩) hg u
theorem dar8 {w : World} {B : Nat} {v : Value} {D : List (Int × Int)} (h : OwnD w B v D) {g k : Nat} (hg : g < B) (hk : k < B) (a4 a5 b0 b1 b2 b3 b4 b5 : Value) : OwnD (set8 w g k a4 a5 b0 b1 b2 b3 b4 b5) B v D :=
  (((((((OwnD.far_set h 4 a4 hg).far_set 5 a5 hg).far_set 0 b0 hk).far_set 1 b1 hk).far_set 2 b2 hk).far_set 3 b3 hk).far_set 4 b4 hk).far_set 5 b5 hk
theorem bar8 {w0 w : World} {B : Nat} (h : Below B w0 w) {g k : Nat} (hg : B ≤ g) (hk : B ≤ k) (a4 a5 b0 b1 b2 b3 b4 b5 : Value) : Below B w0 (set8 w g k a4 a5 b0 b1 b2 b3 b4 b5) :=
  Below.setCell (p := ⟨k, 5, none⟩) (Below.setCell (p := ⟨k, 4, none⟩) (Below.setCell (p := ⟨k, 3, none⟩) (Below.setCell (p := ⟨k, 2, none⟩) (Below.setCell (p := ⟨k, 1, none⟩) (Below.setCell (p := ⟨k, 0, none⟩) (Below.setCell (p := ⟨g, 5, none⟩) (Below.setCell (p := ⟨g, 4, none⟩) h hg a4) hg a5) hk b0) hk b1) hk b2) hk b3) hk b4) hk b5
def srZ : Array Value := #[.int .i64 0, .slice none 0 0, .int .i64 0, .int .i64 0, .slice none 0 0, .int .i64 0]
set_option maxHeartbeats 1600000 in
theorem c_toSearch (A : Sr) (oa fa) (ca fca : Nat) (w : World) (hA : RowsAt w oa A.R) (hC : DepsAt w fa A.F) :
    Calls Try.prog 28 #[.agg #[.int .i64 A.n, .slice oa A.R.length ca, .int .i64 A.m, .int .i64 A.a, .slice fa A.F.length fca, .int .i64 A.t]] w fun e w' => ∃ o c fo fc xs, e = .returned (.agg #[.int .i64 A.n, .slice o A.R.length c, .int .i64 A.m, .int .i64 A.a, .slice fo A.F.length fc, .int .i64 A.t]) ∧ OwnRows w' w.heap.size (.slice o A.R.length c) xs A.R ∧ OwnD w' w.heap.size (.slice fo A.F.length fc) A.F ∧ ApartR (.slice o A.R.length c) xs (.slice fo A.F.length fc) ∧ Below w.heap.size w w' := by
  have hb0 := ((((Below.refl w.heap.size w).alloc (Nat.le_refl _) (.cells #[.int .i64 A.n, .slice oa A.R.length ca, .int .i64 A.m, .int .i64 A.a, .slice fa A.F.length fca, .int .i64 A.t] 47)).alloc (by simp) (.cells srZ 39)).alloc (by simp; omega) (.cells srZ 39))
  unfold srZ at hb0
  go_enter Try.func28, Try.ntmps28
  go_wp2_with fail
  refine (c_toTableO A.n _ _ A.R _ (hA.keep hb0)).mono ?_
  rintro e w1 ⟨o, c, xs, rfl, hN, hbn⟩
  have kA : Blk w1 w.heap.size #[.int .i64 A.n, .slice oa A.R.length ca, .int .i64 A.m, .int .i64 A.a, .slice fa A.F.length fca, .int .i64 A.t] 47 :=
    (((Blk.new w _ _).alloc _).alloc _).keep hbn
  have kR : Blk w1 (w.heap.size + 1) srZ 39 := by
    have := (Blk.new (w.alloc (.cells #[.int .i64 A.n, .slice oa A.R.length ca, .int .i64 A.m, .int .i64 A.a, .slice fa A.F.length fca, .int .i64 A.t] 47)) srZ 39).alloc (.cells srZ 39)
    simp only [World.size_alloc] at this
    exact this.keep hbn
  have kT : Blk w1 (w.heap.size + 1 + 1) srZ 39 := by
    have := Blk.new ((w.alloc (.cells #[.int .i64 A.n, .slice oa A.R.length ca, .int .i64 A.m, .int .i64 A.a, .slice fa A.F.length fca, .int .i64 A.t] 47)).alloc (.cells srZ 39)) srZ 39
    simp only [World.size_alloc] at this
    exact this.keep hbn
  have p2 := kA.cell 2 _ rfl
  have p3 := kA.cell 3 _ rfl
  have p4 := kA.cell 4 _ rfl
  have t0 := kT.cell 0 _ rfl
  have t1 := kT.cell 1 _ rfl
  have t2 := kT.cell 2 _ rfl
  have t3 := kT.cell 3 _ rfl
  have s0 := kT.free 0
  have s1 := kT.free 1
  have s2 := kT.free 2
  have s3 := kT.free 3
  have hb1 := bel_to hb0 hbn
  have hbD : Below w.heap.size w ((((w1.setCell ⟨w.heap.size + 1 + 1, 0, none⟩ (.int .i64 A.n)).setCell ⟨w.heap.size + 1 + 1, 1, none⟩ (.slice o A.R.length c)).setCell ⟨w.heap.size + 1 + 1, 2, none⟩ (.int .i64 A.m)).setCell ⟨w.heap.size + 1 + 1, 3, none⟩ (.int .i64 A.a)) :=
    Below.setCell (Below.setCell (Below.setCell (Below.setCell hb1 (by simp; omega) _) (by simp; omega) _) (by simp; omega) _) (by simp; omega) _
  have hN2 := (((hN.far_set (g := w.heap.size + 1 + 1) 0 (.int .i64 A.n) (by simp)).far_set (g := w.heap.size + 1 + 1) 1 (.slice o A.R.length c) (by simp)).far_set (g := w.heap.size + 1 + 1) 2 (.int .i64 A.m) (by simp)).far_set (g := w.heap.size + 1 + 1) 3 (.int .i64 A.a) (by simp)
  have kT2 := (((kT.set 0 (.int .i64 A.n)).set 1 (.slice o A.R.length c)).set 2 (.int .i64 A.m)).set 3 (.int .i64 A.a)
  have kR2 := (((kR.far ⟨w.heap.size + 1 + 1, 0, none⟩ (.int .i64 A.n) (by simp)).far ⟨w.heap.size + 1 + 1, 1, none⟩ (.slice o A.R.length c) (by simp)).far ⟨w.heap.size + 1 + 1, 2, none⟩ (.int .i64 A.m) (by simp)).far ⟨w.heap.size + 1 + 1, 3, none⟩ (.int .i64 A.a) (by simp)
  have kA2 := (((kA.far ⟨w.heap.size + 1 + 1, 0, none⟩ (.int .i64 A.n) (by simp; omega)).far ⟨w.heap.size + 1 + 1, 1, none⟩ (.slice o A.R.length c) (by simp; omega)).far ⟨w.heap.size + 1 + 1, 2, none⟩ (.int .i64 A.m) (by simp; omega)).far ⟨w.heap.size + 1 + 1, 3, none⟩ (.int .i64 A.a) (by simp; omega)
  clear hbn kA kR kT hN hb1
  go_wp2_with fail
  refine (c_toDepS _ _ _ _ (hC.keep hbD)).mono ?_
  rintro e w2 ⟨v2, rfl, hO, hbn⟩
  have ap := hN2.fresh hO
  obtain ⟨fo, fc, rfl⟩ := hO.shape
  have hbase : w.heap.size + 1 + 1 + 1 ≤ w1.heap.size := by have h9 := World.block_lt_of_cell? _ _ t0; simp at h9; omega
  replace hO := hO.based (show w.heap.size + 1 + 1 + 1 ≤ _ by simp; omega)
  have hN3 := hN2.keep hbn
  have kT3 := kT2.keep hbn
  have kR3 := kR2.keep hbn
  have kA3 := kA2.keep hbn
  have hb2 := bel_to hbD hbn
  clear hbn hN2 kT2 kR2 kA2 hbD p2 p3 p4 t0 t1 t2 t3 s0 s1 s2 s3
  have p5 := kA3.cell 5 (.int .i64 A.t) rfl
  have t0 := kT3.cell 0 (.int .i64 A.n) rfl
  have t1 := kT3.cell 1 (.slice o A.R.length c) rfl
  have t2 := kT3.cell 2 (.int .i64 A.m) rfl
  have t3 := kT3.cell 3 (.int .i64 A.a) rfl
  have t4 := kT3.cell 4 (.slice none 0 0) rfl
  have t5 := kT3.cell 5 (.int .i64 0) rfl
  have s4 := kT3.free 4
  have s5 := kT3.free 5
  have r0 := kR3.cell 0 (.int .i64 0) rfl
  have r1 := kR3.cell 1 (.slice none 0 0) rfl
  have r2 := kR3.cell 2 (.int .i64 0) rfl
  have r3 := kR3.cell 3 (.int .i64 0) rfl
  have r4 := kR3.cell 4 (.slice none 0 0) rfl
  have r5 := kR3.cell 5 (.int .i64 0) rfl
  have q0 := kR3.free 0
  have q1 := kR3.free 1
  have q2 := kR3.free 2
  have q3 := kR3.free 3
  have q4 := kR3.free 4
  have q5 := kR3.free 5
  clear kT3 kR3 kA3
  go_wp2
  have x1 := far8 hN3 (g := w.heap.size + 1 + 1) (k := w.heap.size + 1) (by simp) (by simp <;> omega) (.slice fo A.F.length fc) (.int .i64 A.t) (.int .i64 A.n) (.slice o A.R.length c) (.int .i64 A.m) (.int .i64 A.a) (.slice fo A.F.length fc) (.int .i64 A.t)
  have x2 := dar8 hO (g := w.heap.size + 1 + 1) (k := w.heap.size + 1) (by omega) (by omega) (.slice fo A.F.length fc) (.int .i64 A.t) (.int .i64 A.n) (.slice o A.R.length c) (.int .i64 A.m) (.int .i64 A.a) (.slice fo A.F.length fc) (.int .i64 A.t)
  have x3 := bar8 hb2 (g := w.heap.size + 1 + 1) (k := w.heap.size + 1) (by omega) (by omega) (.slice fo A.F.length fc) (.int .i64 A.t) (.int .i64 A.n) (.slice o A.R.length c) (.int .i64 A.m) (.int .i64 A.a) (.slice fo A.F.length fc) (.int .i64 A.t)
  exact bodyPost_ret (v := .agg #[.int .i64 A.n, .slice o A.R.length c, .int .i64 A.m, .int .i64 A.a, .slice fo A.F.length fc, .int .i64 A.t]) (by simp [results, Try.results28, go_sem, r0, r1, r2, r3, r4, r5]) rfl
    ⟨o, c, fo, fc, xs, rfl, x1.based (by simp <;> omega), x2.based (by omega), ap, x3⟩
end Go.Proofs.Ytjbmpnbfiahdhaa
namespace Go.Proofs.Ytjbmpnbfiahdhaa
open Go.RowKit
set_option linter.unusedVariables false
set_option maxRecDepth 100000
set_option maxHeartbeats 1600000

theorem step_append_own {P : Program} (w : World) {ops : Array Oper} {o : Oper} {a : Act} {K : Act → World → Prop} {Q : Exit → Act → World → Prop} {E : Prop} (hgd : o.guard = none) (s x : Operand) (t : TypeId)
    (ho : o.op = .call { callee := .builtin .append, args := #[s, x], argTypes := #[t, t] })
    (base : Nat) (e : TypeId) (i : TypeInfo) (z : Value) (size bytes : Nat) (ht : P.underlying t = some (.slice e)) (hi : P.info? e = some i) (hz : i.zero = some z)
    (hsize : i.size = size) (hby : i.bytes = bytes) (hzs : z.cells.size = size) (hsz : 0 < size)
    (v : Value) (n : Nat) (xs : List Value) (hs : a.eval s = v) (hown : w.ownsRow base e size v n xs)
    (ad : Addr) (m c : Nat) (news : List Value) (hx : a.eval x = .slice (some ad) m c) (hl : news.length = m * size) (hnews : ∀ j u, news[j]? = some u → w.cell? (ad.add j) = some u) (h1 : ∀ u ∈ news, u.oneCell' = true)
    (h63 : n + m ≤ maxLen) (hbytes : (n + m) * bytes ≤ 140737488355328) (hbase : base ≤ w.heap.size)
    (h : ∀ v' w', w'.ownsRow base e size v' (n + m) (xs ++ news) → w.grownBy w' v.ownBlock → K (a.put o.dst v') w') :
    if Region.wanted o (yielded ops a.tmps) = true then Oper.wp P o a w K Q else E := by
  have hw : Region.wanted o (yielded ops a.tmps) = true := by simp [Region.wanted, hgd]
  rw [if_pos hw]
  exact wp_append_own w s x t ho base e i z size bytes ht hi hz hsize hby hzs hsz v n xs hs hown ad m c news hx hl hnews h1 h63 hbytes hbase fun v' w' h2 h3 _ => h v' w' h2 h3

/-- An operation whose guard is shut, taken first. -/
theorem wpAnyH_skip {P : Program} {ops : Array Oper} {Q : Exit → Act → World → Prop} {md : Region.Mode} {S : World → Prop} {i : Nat} {oi : Oper} (d : Option Nat) {fuel : Nat} {listed : Array Bool} {a : Act} {w : World} (hi : ops[i]? = some oi) (hd : oi.dst = d)
    (hs : Region.noSelect ops = true) (hf : Region.free md ops listed i = true) (hr : (Region.ready md ops listed).contains i = true)
    (hQ : ∀ c a w, Q (.panic c) (a.put d undef) w → Q (.panic c) a w) (hy : Region.wanted oi (yielded ops a.tmps) = false) (hS : S w)
    (h : wpAnyH P md ops Q S fuel (listed.setIfInBounds i true) (a.put d undef) w) : wpAnyH P md ops Q S (fuel + 1) listed a w := by
  subst hd
  exact wpAnyH_take hi hs hf hr hQ (Or.inr ⟨hy, rfl⟩) hS h
/-- An operation that yields a value whatever the world, taken first. -/
theorem wpAnyH_val {P : Program} {ops : Array Oper} {Q : Exit → Act → World → Prop} {md : Region.Mode} {S : World → Prop} {i : Nat} {oi : Oper} (d : Option Nat) (v : Value) {fuel : Nat} {listed : Array Bool} {a : Act} {w : World} (hi : ops[i]? = some oi) (hd : oi.dst = d)
    (hs : Region.noSelect ops = true) (hf : Region.free md ops listed i = true) (hr : (Region.ready md ops listed).contains i = true)
    (hQ : ∀ c a w, Q (.panic c) (a.put d v) w → Q (.panic c) a w) (hw : Region.wanted oi (yielded ops a.tmps) = true) (hS : S w) (hy : ∀ w, S w → (execOp a.eval oi).run P w = .ok (.value v) w)
    (h : wpAnyH P md ops Q S fuel (listed.setIfInBounds i true) (a.put d v) w) : wpAnyH P md ops Q S (fuel + 1) listed a w := by
  subst hd
  exact wpAnyH_take hi hs hf hr hQ (Or.inl ⟨hw, hy⟩) hS h
theorem nl_take {D : List (Int × Int)} {i k : Nat} (h : k < i) : nl (D.take i) k = nl D k := by unfold nl; simp [List.getD, h]
theorem nr_take {D : List (Int × Int)} {i k : Nat} (h : k < i) : nr (D.take i) k = nr D k := by unfold nr; simp [List.getD, h]
theorem DepsAt.take {w : World} {oa : Option Addr} {D : List (Int × Int)} (h : DepsAt w oa D) (i : Nat) : DepsAt w oa (D.take i) := by
  refine ⟨by have := h.len; rw [List.length_take]; omega, fun h0 => ?_⟩
  rw [List.length_take] at h0
  obtain ⟨b, off, e, hlt, hc⟩ := h.at_ (by omega)
  refine ⟨b, off, e, hlt, fun k hk => ?_⟩
  rw [List.length_take] at hk
  rw [nl_take (by omega), nr_take (by omega)]
  exact hc k (by omega)
theorem c_copyTake (a : Addr) (cap i : Nat) (D : List (Int × Int)) (w : World) (hD : DepsAt w (some a) D) (hi : i ≤ D.length) :
    Calls Try.prog 165 #[.slice (some a) i cap] w fun e w' => ∃ v, e = .returned v ∧ OwnD w' w.heap.size v (D.take i) ∧ Below w.heap.size w w' := by
  have h := c_copyDeps (some a) cap (D.take i) w (hD.take i) (by intro h; cases h)
  rwa [List.length_take, Nat.min_eq_left hi] at h
theorem OwnD.row {w : World} {base : Nat} {v : Value} {i : Nat} {D : List (Int × Int)} (hi : i ≤ D.length) (h : OwnD w base v (D.take i)) : w.ownsRow base 55 2 v i (dcells (D.take i)) := by
  unfold OwnD at h; rwa [List.length_take, Nat.min_eq_left hi] at h

theorem no_news {w : World} {ad : Addr} : ∀ (j : Nat) (u : Value), ([] : List Value)[j]? = some u → w.cell? (ad.add j) = some u := by intro j u hj; cases hj
theorem no_one : ∀ u ∈ ([] : List Value), u.oneCell' = true := by intro u hu; cases hu
end Go.Proofs.Ytjbmpnbfiahdhaa
namespace Go.Proofs.Ytjbmpnbfiahdhaa
open Go.RowKit
set_option linter.unusedVariables false
set_option maxRecDepth 100000

def set6 (w : World) (k : Nat) (b0 b1 b2 b3 b4 b5 : Value) : World := (((((w.setCell ⟨k, 0, none⟩ b0).setCell ⟨k, 1, none⟩ b1).setCell ⟨k, 2, none⟩ b2).setCell ⟨k, 3, none⟩ b3).setCell ⟨k, 4, none⟩ b4).setCell ⟨k, 5, none⟩ b5
theorem OwnD.set_ne {w : World} {B g : Nat} {v : Value} {D : List (Int × Int)} (h : OwnD w B v D) (j : Nat) (u : Value) (hg : v.ownBlock ≠ some g) : OwnD (w.setCell ⟨g, j, none⟩ u) B v D := ownsRow_setCell_other h (a := ⟨g, j, none⟩) hg u
theorem OwnD.set6 {w : World} {B k : Nat} {v : Value} {D : List (Int × Int)} (h : OwnD w B v D) (hk : v.ownBlock ≠ some k) (b0 b1 b2 b3 b4 b5 : Value) : OwnD (set6 w k b0 b1 b2 b3 b4 b5) B v D :=
  (((((h.set_ne 0 b0 hk).set_ne 1 b1 hk).set_ne 2 b2 hk).set_ne 3 b3 hk).set_ne 4 b4 hk).set_ne 5 b5 hk
theorem bel_set6 {w0 w : World} {B : Nat} (h : Below B w0 w) {k : Nat} (hk : B ≤ k) (b0 b1 b2 b3 b4 b5 : Value) : Below B w0 (set6 w k b0 b1 b2 b3 b4 b5) :=
  Below.setCell (p := ⟨k, 5, none⟩) (Below.setCell (p := ⟨k, 4, none⟩) (Below.setCell (p := ⟨k, 3, none⟩) (Below.setCell (p := ⟨k, 2, none⟩) (Below.setCell (p := ⟨k, 1, none⟩) (Below.setCell (p := ⟨k, 0, none⟩) h hk b0) hk b1) hk b2) hk b3) hk b4) hk b5
theorem OwnD.nilcap {w : World} {B n c : Nat} {oa : Option Addr} {D : List (Int × Int)} (h : OwnD w B (.slice oa n c) D) : oa = none → c = 0 := by
  intro e
  subst e
  rcases h.2 with ⟨hv, _⟩ | ⟨g, c', cur, hv, _⟩
  · cases hv; rfl
  · cases hv
theorem OwnD.not_new {w : World} {B : Nat} {v : Value} {D : List (Int × Int)} (h : OwnD w B v D) {g : Nat} (hg : w.heap.size ≤ g) : v.ownBlock ≠ some g := fun e => by
  have := (World.ownsRow.lt h g e).2
  omega
theorem Fresh.self (w : World) (v : Value) : Fresh w v v := .inl rfl
theorem covS_take {F : List (Int × Int)} {x r : Int} {j : Nat} (hj : j < F.length) : covS (F.take (j + 1)) x r = (covS (F.take j) x r || ((nr F j == r) && ins (nl F j) x)) := by
  unfold covS
  rw [List.take_add_one, dnth_eq hj, List.any_append]; simp
theorem covS_at {F : List (Int × Int)} {x r : Int} {j : Nat} (hj : j < F.length) (h : ((nr F j == r) && ins (nl F j) x) = true) : covS F x r = true := List.any_eq_true.2 ⟨(nl F j, nr F j), List.mem_iff_getElem?.2 ⟨j, dnth_eq hj⟩, h⟩
theorem ask_cand {N k : Nat} {R : List (List Int)} {m : Int} (ht : isTabF N R = true) (hm : modeF m = true) (hk : k < N * 2 ^ N) : askF N R m (candF N k).1 (candF N k).2 = true := by
  obtain ⟨h1, h5, _, _⟩ := isTab_of ht
  obtain ⟨_, c1, c2, c3, c4⟩ := cand_ok (by omega) (by omega) hk
  unfold askF isDepF isAttr
  rw [ht, hm]
  simp only [Bool.and_self, Bool.true_and, Bool.and_eq_true, decide_eq_true_eq, Int.toNat_natCast]
  exact ⟨⟨⟨h1, ⟨⟨⟨by omega, h5⟩, c1.1⟩, c3⟩⟩, c2.1⟩, c4⟩
theorem Blk.grown {a b : World} {g : Nat} {c : Array Value} {T : TypeId} {row : Option Nat} (h : Blk a g c T) (hg : a.grownBy b row) (hne : some g ≠ row) : Blk b g c T := (hg.block g h.lt hne).trans h
theorem lit_keep {w w' : World} {n : Nat} {c : Array Value} {T : TypeId} (h : Below n (w.alloc (.cells c T)) w') (hn : n = w.heap.size + 1) : w'.heap[w.heap.size]? = some (.cells c T (0, 0)) := (h.block w.heap.size (by omega)).trans (heap_alloc_new w _)
theorem lit_keep_drew {w w' : World} {n : Nat} {c : Array Value} {T : TypeId} (h : Below n (w.alloc (.cells c T)).drew w') (hn : n = w.heap.size + 1) : w'.heap[w.heap.size]? = some (.cells c T (0, 0)) := (h.block w.heap.size (by omega)).trans (heap_alloc_new w _)
theorem own_snocD' {w : World} {base : Nat} {v : Value} {A : List (Int × Int)} {l r : Int} (h : w.ownsRow base 55 2 v (A.length + 1) (dcells A ++ [.int .i64 l, .int .i64 r])) : OwnD w base v (A ++ [(l, r)]) := OwnD.joined (B := [(l, r)]) h
theorem snoc_shape {w : World} {base : Nat} {v : Value} {A : List (Int × Int)} {d : Int × Int} (h : OwnD w base v (A ++ [d])) : ∃ o c, v = .slice o (A.length + 1) c := by
  obtain ⟨o, c, e⟩ := h.shape
  exact ⟨o, c, by rw [e]; simp⟩
set_option maxHeartbeats 3200000 in
theorem c_step (N k : Nat) (oa fo) (cap fc : Nat) (R : List (List Int)) (m t : Int) (F : List (Int × Int)) (B : Nat) (w : World) (hR : RowsAt w oa R) (ht : isTabF N R = true) (hm : modeF m = true) (hk : k < N * 2 ^ N)
    (hF : OwnD w B (.slice fo F.length fc) F) (hB : B ≤ w.heap.size) (hFl : F.length ≤ 160) (ht0 : 0 ≤ t) (ht1 : t ≤ 160) :
    Calls Try.prog 102 #[.agg #[.int .i64 N, .slice oa R.length cap, .int .i64 m, .int .i64 k, .slice fo F.length fc, .int .i64 t]] w fun e w' => ∃ fo' fc', e = .returned (.agg #[.int .i64 N, .slice oa R.length cap, .int .i64 m, .int .i64 ((k : Int) + 1), .slice fo' (stepF R m N k (F, t)).1.length fc', .int .i64 (stepF R m N k (F, t)).2]) ∧ OwnD w' B (.slice fo' (stepF R m N k (F, t)).1.length fc') (stepF R m N k (F, t)).1 ∧ Fresh w (.slice fo F.length fc) (.slice fo' (stepF R m N k (F, t)).1.length fc') ∧ Below w.heap.size w w' := by
  obtain ⟨i0, hi, hz0, hz1, hz2⟩ := info_parts info_dep
  obtain ⟨hn1, hn5, _, _⟩ := isTab_of ht
  have hN5 : N ≤ 5 := by omega
  have hN1 : 1 ≤ N := by omega
  have hk160 := count_le hN5
  obtain ⟨_, hst, hco, _, _⟩ := cand_ok hN5 hN1 hk
  have hask := ask_cand (R := R) (m := m) ht hm hk
  have HZ : Hid (stepF R m N k (F, t) = if hasc (candF N k).1 (candF N k).2 || covS F (candF N k).1 (candF N k).2 then (F, t) else (if holdsF R m (candF N k).1 (candF N k).2 then F ++ [((candF N k).1, (candF N k).2)] else F, t + 1)) := rfl
  have HCD : Hid (∀ w', Ans Try.prog 167 #[.int .i64 N, .int .i64 k] w' (.agg #[.int .i64 (candF N k).1, .int .i64 (candF N k).2])) := fun w' => c_candidate N k hN5 hN1 hk w'
  generalize hz : stepF R m N k (F, t) = z at *
  clear hz
  generalize (candF N k).1 = x at *
  generalize (candF N k).2 = r at *
  have hr64 : 0 ≤ r ∧ r < 64 := ⟨hco.1, by have := hco.2; omega⟩
  have hR0 := hR
  have hFn : (Value.slice fo F.length fc).ownBlock ≠ some w.heap.size ∧ (Value.slice fo F.length fc).ownBlock ≠ some (w.heap.size + 1) := ⟨hF.not_new (Nat.le_refl _), hF.not_new (Nat.le_succ _)⟩
  have HNC : Hid (fo = none → fc = 0) := hF.nilcap
  have HST : Hid (St x ∧ Co r) := ⟨hst, hco⟩
  have hb := bel2 w (.cells #[.int .i64 N, .slice oa R.length cap, .int .i64 m, .int .i64 k, .slice fo F.length fc, .int .i64 t] 39) (.cells srZ 39)
  have kS := (Blk.new w #[.int .i64 N, .slice oa R.length cap, .int .i64 m, .int .i64 k, .slice fo F.length fc, .int .i64 t] 39).alloc (.cells srZ 39)
  have kZ := Blk.new (w.alloc (.cells #[.int .i64 N, .slice oa R.length cap, .int .i64 m, .int .i64 k, .slice fo F.length fc, .int .i64 t] 39)) srZ 39
  simp only [World.size_alloc] at kZ
  have hF0 := hF.keep hb
  unfold srZ at hb kS kZ hF0
  have s0 := kS.cell 0 (.int .i64 N) rfl
  have s3 := kS.cell 3 (.int .i64 k) rfl
  clear hst hco ht hm hF
  go_enter Try.func102, Try.ntmps102
  go_wp2_with fail
  refine Calls.mono (HCD.out _) ?_
  rintro e w1 ⟨rfl, hbn⟩
  replace kS := kS.keep hbn
  replace kZ := kZ.keep hbn
  replace hF := hF0.keep hbn
  replace hb := bel_to hb hbn
  have hs1 : w.heap.size + 1 < w1.heap.size := kZ.lt
  clear hbn s0 s3 hF0
  have s3 := kS.cell 3 (.int .i64 k) rfl
  have kS1 := kS.alloc (.cells #[.int .i64 x, .int .i64 r] 55)
  have kZ1 := kZ.alloc (.cells #[.int .i64 x, .int .i64 r] 55)
  have kD1 := Blk.new w1 #[.int .i64 x, .int .i64 r] 55
  have hb1 := hb.alloc hb.size (.cells #[.int .i64 x, .int .i64 r] 55)
  have hF1 := hF.keep ((Below.refl w1.heap.size w1).alloc (Nat.le_refl _) (.cells #[.int .i64 x, .int .i64 r] 55))
  have hFd : (Value.slice fo F.length fc).ownBlock ≠ some w1.heap.size := hF.not_new (Nat.le_refl _)
  have s3' := kS1.cell 3 (.int .i64 k) rfl
  have f3' := kS1.free 3
  have kS2 : Blk _ w.heap.size #[.int .i64 N, .slice oa R.length cap, .int .i64 m, .int .i64 ((k : Int) + 1), .slice fo F.length fc, .int .i64 t] 39 := kS1.set 3 (.int .i64 ((k : Int) + 1))
  have kZ2 := kZ1.far ⟨w.heap.size, 3, none⟩ (.int .i64 ((k : Int) + 1)) (by simp)
  have kD2 := kD1.far ⟨w.heap.size, 3, none⟩ (.int .i64 ((k : Int) + 1)) (by simp; omega)
  have hb2 := Below.setCell (p := (⟨w.heap.size, 3, none⟩ : Addr)) hb1 (Nat.le_refl _) (.int .i64 ((k : Int) + 1))
  have hF2 := hF1.set_ne 3 (.int .i64 ((k : Int) + 1)) hFn.1
  have d0 := kD2.cell 0 (.int .i64 x) rfl
  have d1 := kD2.cell 1 (.int .i64 r) rfl
  have hs2 : w1.heap.size < ((w1.alloc (.cells #[.int .i64 x, .int .i64 r] 55)).setCell ⟨w.heap.size, 3, none⟩ (.int .i64 ((k : Int) + 1))).heap.size := by simp
  clear kS kZ hb kS1 kZ1 kD1 hb1 hF hF1
  go_wp2_with fail
  cases h1 : hasc x r
  · refine Calls.mono (Ans.eqb (c_has _ _ hr64 _) h1) ?_
    rintro e w3 ⟨rfl, hbn⟩
    replace kS2 := kS2.keep hbn
    replace kZ2 := kZ2.keep hbn
    replace kD2 := kD2.keep hbn
    replace hF2 := hF2.keep hbn
    replace hb2 := bel_to hb2 hbn
    clear hbn d0 d1 s3 s3' f3'
    have s4 := kS2.cell 4 (.slice fo F.length fc) rfl
    generalize hd9 : w1.heap.size = d at *
    have hsd : w.heap.size + 1 < d := hs1
    clear hd9 hs2 hs1
    have hFr : F.length ≤ Room := by unfold Room; omega
    go_wp2
    go_loopw [25] (fun i wr => ∃ j : Nat, i = .int .i64 j ∧ j ≤ F.length ∧ covS (F.take j) x r = false ∧ Blk wr w.heap.size #[.int .i64 N, .slice oa R.length cap, .int .i64 m, .int .i64 ((k : Int) + 1), .slice fo F.length fc, .int .i64 t] 39 ∧ Blk wr (w.heap.size + 1) srZ 39 ∧ Blk wr d #[.int .i64 x, .int .i64 r] 55 ∧ OwnD wr B (.slice fo F.length fc) F ∧ Below w.heap.size w wr) (fun i _ => F.length - (intOf i).toNat)
    case atStart => exact ⟨0, rfl, Nat.zero_le _, rfl, kS2, kZ2, kD2, hF2, hb2⟩
    case round =>
      clear kS2 kZ2 kD2 hF2 hb2 s4
      obtain ⟨j, rfl, hj, hcov, kS, kZ, kD, hF, hb⟩ := hrel
      have HC : Hid (covS (F.take j) x r = false) := hcov
      clear hcov
      by_cases hlt : j < F.length
      · obtain ⟨b, off, rfl, hbs, hc⟩ := (hF.deps rfl hFr).at_ (by omega)
        have hc1 := (hc j hlt).1
        have hc2 := (hc j hlt).2
        have HT : Hid (covS (F.take (j + 1)) x r = (covS (F.take j) x r || ((nr F j == r) && ins (nl F j) x))) := covS_take hlt
        have HA : Hid (((nr F j == r) && ins (nl F j) x) = true → covS F x r = true) := covS_at hlt
        clear hc
        generalize nl F j = a at *
        generalize nr F j = q at *
        have hba := (Below.refl wr.heap.size wr).alloc (Nat.le_refl _) (.cells #[.int .i64 a, .int .i64 q] 55)
        replace kS := kS.keep hba
        replace kZ := kZ.keep hba
        replace kD := kD.keep hba
        replace hF := hF.keep hba
        replace hb := bel_to hb hba
        have g0 := box_at wr #[.int .i64 a, .int .i64 q] 55 0 _ rfl
        have g1 := box_at wr #[.int .i64 a, .int .i64 q] 55 1 _ rfl
        have d0 := kD.cell 0 (.int .i64 x) rfl
        have d1 := kD.cell 1 (.int .i64 r) rfl
        clear hba
        cases hq : (q == r)
        · go_wp2
          go_roundw
          case rel => exact ⟨j + 1, by go_num, by omega, by rw [HT.out, HC.out, hq]; rfl, kS, kZ, kD, hF, hb⟩
          case measure => simp [intOf]; omega
        · cases hi3 : ins a x
          · go_wp2_with fail
            refine Calls.mono (Ans.eqb (c_inside _ _ _) hi3) ?_
            rintro e w4 ⟨rfl, hbn⟩
            replace kS := kS.keep hbn
            replace kZ := kZ.keep hbn
            replace kD := kD.keep hbn
            replace hF := hF.keep hbn
            replace hb := bel_to hb hbn
            clear hbn g0 g1 d0 d1
            go_wp2
            go_roundw
            case rel => exact ⟨j + 1, by go_num, by omega, by rw [HT.out, HC.out, hq, hi3]; rfl, kS, kZ, kD, hF, hb⟩
            case measure => simp [intOf]; omega
          · have HV : Hid (z = (F, t)) := by show z = (F, t); rw [HZ.out, h1, HA.out (by rw [hq, hi3]; rfl)]; rfl
            go_wp2_with fail
            refine Calls.mono (Ans.eqb (c_inside _ _ _) hi3) ?_
            rintro e w4 ⟨rfl, hbn⟩
            replace kS := kS.keep hbn
            replace kZ := kZ.keep hbn
            replace hF := hF.keep hbn
            replace hb := bel_to hb hbn
            clear hbn g0 g1 d0 d1 kD
            have s0 := kS.cell 0 (.int .i64 N) rfl
            have s1 := kS.cell 1 (.slice oa R.length cap) rfl
            have s2 := kS.cell 2 (.int .i64 m) rfl
            have s3 := kS.cell 3 (.int .i64 ((k : Int) + 1)) rfl
            have s4 := kS.cell 4 (.slice (some ⟨b, off, none⟩) F.length fc) rfl
            have s5 := kS.cell 5 (.int .i64 t) rfl
            have z0 := kZ.cell 0 (.int .i64 0) rfl
            have z1 := kZ.cell 1 (.slice none 0 0) rfl
            have z2 := kZ.cell 2 (.int .i64 0) rfl
            have z3 := kZ.cell 3 (.int .i64 0) rfl
            have z4 := kZ.cell 4 (.slice none 0 0) rfl
            have z5 := kZ.cell 5 (.int .i64 0) rfl
            have f0 := kZ.free 0
            have f1 := kZ.free 1
            have f2 := kZ.free 2
            have f3 := kZ.free 3
            have f4 := kZ.free 4
            have f5 := kZ.free 5
            go_wp2
            refine bodyPost_ret (v := .agg #[.int .i64 N, .slice oa R.length cap, .int .i64 m, .int .i64 ((k : Int) + 1), .slice (some ⟨b, off, none⟩) F.length fc, .int .i64 t]) (by simp [results, Try.results102, go_sem, z0, z1, z2, z3, z4, z5]) rfl ?_
            rw [HV.out]
            exact ⟨_, fc, rfl, OwnD.set6 hF hFn.2 _ _ _ _ _ _, Fresh.self _ _, bel_set6 hb (Nat.le_succ _) _ _ _ _ _ _⟩
      · have hjj : j = F.length := by omega
        have HCF : Hid (covS F x r = false) := by have h := HC.out; rw [hjj, List.take_length] at h; exact h
        clear hjj
        have s5 := kS.cell 5 (.int .i64 t) rfl
        have f5 := kS.free 5
        have kS2 : Blk _ w.heap.size #[.int .i64 N, .slice oa R.length cap, .int .i64 m, .int .i64 ((k : Int) + 1), .slice fo F.length fc, .int .i64 (t + 1)] 39 := kS.set 5 (.int .i64 (t + 1))
        have kZ2 := kZ.far ⟨w.heap.size, 5, none⟩ (.int .i64 (t + 1)) (by simp)
        have kD2 := kD.far ⟨w.heap.size, 5, none⟩ (.int .i64 (t + 1)) (by simp; omega)
        have hb2 := Below.setCell (p := (⟨w.heap.size, 5, none⟩ : Addr)) hb (Nat.le_refl _) (.int .i64 (t + 1))
        have hF2 := hF.set_ne 5 (.int .i64 (t + 1)) hFn.1
        have s0 := kS2.cell 0 (.int .i64 N) rfl
        have s1 := kS2.cell 1 (.slice oa R.length cap) rfl
        have s2 := kS2.cell 2 (.int .i64 m) rfl
        have d0 := kD2.cell 0 (.int .i64 x) rfl
        have d1 := kD2.cell 1 (.int .i64 r) rfl
        clear kS kZ kD hb hF
        go_wp2_with fail
        cases h2 : holdsF R m x r
        · have HV : Hid (z = (F, t + 1)) := by show z = (F, t + 1); rw [HZ.out, h1, HCF.out, h2]; rfl
          refine Calls.mono (Ans.eqb (b' := false) (c_HoldsDep N oa cap R m x r _ (hR0.keep hb2)) (by rw [h2]; simp)) ?_
          rintro e w5 ⟨rfl, hbn⟩
          replace kS2 := kS2.keep hbn
          replace kZ2 := kZ2.keep hbn
          replace hF2 := hF2.keep hbn
          replace hb2 := bel_to hb2 hbn
          clear hbn d0 d1 s0 s1 s2 s5 f5 kD2
          have s0 := kS2.cell 0 (.int .i64 N) rfl
          have s1 := kS2.cell 1 (.slice oa R.length cap) rfl
          have s2 := kS2.cell 2 (.int .i64 m) rfl
          have s3 := kS2.cell 3 (.int .i64 ((k : Int) + 1)) rfl
          have s4 := kS2.cell 4 (.slice fo F.length fc) rfl
          have s5 := kS2.cell 5 (.int .i64 (t + 1)) rfl
          have z0 := kZ2.cell 0 (.int .i64 0) rfl
          have z1 := kZ2.cell 1 (.slice none 0 0) rfl
          have z2 := kZ2.cell 2 (.int .i64 0) rfl
          have z3 := kZ2.cell 3 (.int .i64 0) rfl
          have z4 := kZ2.cell 4 (.slice none 0 0) rfl
          have z5 := kZ2.cell 5 (.int .i64 0) rfl
          have f0 := kZ2.free 0
          have f1 := kZ2.free 1
          have f2 := kZ2.free 2
          have f3 := kZ2.free 3
          have f4 := kZ2.free 4
          have f5 := kZ2.free 5
          go_wp2
          refine bodyPost_ret (v := .agg #[.int .i64 N, .slice oa R.length cap, .int .i64 m, .int .i64 ((k : Int) + 1), .slice fo F.length fc, .int .i64 (t + 1)]) (by simp [results, Try.results102, go_sem, z0, z1, z2, z3, z4, z5]) rfl ?_
          rw [HV.out]
          exact ⟨fo, fc, rfl, OwnD.set6 hF2 hFn.2 _ _ _ _ _ _, Fresh.self _ _, bel_set6 hb2 (Nat.le_succ _) _ _ _ _ _ _⟩
        · have HV : Hid (z = (F ++ [(x, r)], t + 1)) := by show z = _; rw [HZ.out, h1, HCF.out, h2]; rfl
          refine Calls.mono (Ans.eqb (b' := true) (c_HoldsDep N oa cap R m x r _ (hR0.keep hb2)) (by rw [h2, hask]; rfl)) ?_
          rintro e w5 ⟨rfl, hbn⟩
          replace kS2 := kS2.keep hbn
          replace kZ2 := kZ2.keep hbn
          replace kD2 := kD2.keep hbn
          replace hF2 := hF2.keep hbn
          replace hb2 := bel_to hb2 hbn
          clear hbn d0 d1 s0 s1 s2 s5 f5
          have s4 := kS2.cell 4 (.slice fo F.length fc) rfl
          have f4 := kS2.free 4
          have d0 := kD2.cell 0 (.int .i64 x) rfl
          have d1 := kD2.cell 1 (.int .i64 r) rfl
          have s4b : (w5.alloc (.cells #[.int .i64 x, .int .i64 r] 55)).drew.cell? ⟨w.heap.size, 4, none⟩ = some (.slice fo F.length fc) := (kS2.alloc _).cell 4 _ rfl
          have hbase : B ≤ w5.heap.size := Nat.le_trans hB hb2.size
          have h63 : F.length + 1 ≤ maxLen := by unfold maxLen; omega
          have h64 : (F.length + 1) * 16 ≤ 140737488355328 := by omega
          go_wp2_with fail
          go_region_law (first
            | (go_simp; refine (c_copyDeps fo fc F _ ((hF2.keep (by first | exact (Below.refl _ _).drew | exact (Below.refl _ _).drew.alloc (Nat.le_refl _) _)).deps rfl hFr) HNC.out).mono ?_; rintro e w6 ⟨v6, rfl, hO, hbn⟩; have hb56 := bel_to (w := w5) (by first | exact (Below.refl _ _).drew | exact (Below.refl _ _).drew.alloc (Nat.le_refl _) _) hbn; replace hO := hO.based (show w5.heap.size ≤ _ by simp); have kS6 := kS2.keep hb56; have kZ6 := kZ2.keep hb56; have kD6 := kD2.keep hb56; have hb6 := bel_to hb2 hb56; have d0 := kD6.cell 0 (.int .i64 x) rfl; have d1 := kD6.cell 1 (.int .i64 r) rfl)
            | (refine step_append_own _ (by rfl) _ _ 29 (by rfl) w5.heap.size 55 i0 (.agg #[.int .i64 0, .int .i64 0]) 2 16 Try.underlying29 hi hz0 hz1 hz2 rfl (by decide) v6 _ _ (by rfl) (World.ownsRow.alloc hO _) _ 1 1 [.int .i64 x, .int .i64 r] (by rfl) rfl (World.news_of_block (cs := #[.int .i64 x, .int .i64 r]) (t := 55) (fr := (0, 0)) (heap_alloc_new _ _)) (by intro u hu; simp at hu; rcases hu with rfl | rfl <;> rfl) (show _ from h63) (show _ from h64) (by have := hb56.size; simp; omega) ?_; intro v7 w7 hown hgrow; have hne9 := fun (g : Nat) (hg : g < w5.heap.size) => (show some g ≠ v6.ownBlock from fun e => by have := (World.ownsRow.lt hO g e.symm).1; omega); have kS7 := (kS6.alloc _).grown hgrow (hne9 _ kS2.lt); have kZ7 := (kZ6.alloc _).grown hgrow (hne9 _ kZ2.lt); have hb7 := (hb6.alloc hb6.size _).grown hgrow (by have := hb6.size; simp; omega) (fun g hg => Nat.le_trans hb2.size (World.ownsRow.lt hO g hg).1); have hO7 := own_snocD' hown; clear hown hgrow; obtain ⟨o7, c7, rfl⟩ := snoc_shape hO7; have s4 := kS7.cell 4 (.slice fo F.length fc) rfl; have f4 := kS7.free 4)
            | (refine step_append_own _ (by rfl) _ _ 29 (by rfl) w5.heap.size 55 i0 (.agg #[.int .i64 0, .int .i64 0]) 2 16 Try.underlying29 hi hz0 hz1 hz2 rfl (by decide) v6 _ _ (by rfl) hO _ 1 1 [.int .i64 x, .int .i64 r] (by rfl) rfl (World.news_of_block (cs := #[.int .i64 x, .int .i64 r]) (t := 55) (fr := (0, 0)) (lit_keep_drew hbn (by simp))) (by intro u hu; simp at hu; rcases hu with rfl | rfl <;> rfl) (show _ from h63) (show _ from h64) hb56.size ?_; intro v7 w7 hown hgrow; have hne9 := fun (g : Nat) (hg : g < w5.heap.size) => (show some g ≠ v6.ownBlock from fun e => by have := (World.ownsRow.lt hO g e.symm).1; omega); have kS7 := (kS6).grown hgrow (hne9 _ kS2.lt); have kZ7 := (kZ6).grown hgrow (hne9 _ kZ2.lt); have hb7 := (hb6).grown hgrow (by have := hb6.size; simp; omega) (fun g hg => Nat.le_trans hb2.size (World.ownsRow.lt hO g hg).1); have hO7 := own_snocD' hown; clear hown hgrow; obtain ⟨o7, c7, rfl⟩ := snoc_shape hO7; have s4 := kS7.cell 4 (.slice fo F.length fc) rfl; have f4 := kS7.free 4)
            | fail)
          all_goals
            have kS8 : Blk _ w.heap.size #[.int .i64 N, .slice oa R.length cap, .int .i64 m, .int .i64 ((k : Int) + 1), .slice o7 (F.length + 1) c7, .int .i64 (t + 1)] 39 := kS7.set 4 (.slice o7 (F.length + 1) c7)
            have kZ8 := kZ7.far ⟨w.heap.size, 4, none⟩ (.slice o7 (F.length + 1) c7) (by simp)
            have hb8 := Below.setCell (p := (⟨w.heap.size, 4, none⟩ : Addr)) hb7 (Nat.le_refl _) (.slice o7 (F.length + 1) c7)
            have hn7 : ∀ g, g < w5.heap.size → (Value.slice o7 (F.length + 1) c7).ownBlock ≠ some g := fun g hg e => by have := (World.ownsRow.lt hO7 g e).1; omega
            have hs5 := kS2.lt
            have hz5 := kZ2.lt
            have hO8 := hO7.set_ne 4 (.slice o7 (F.length + 1) c7) (hn7 _ hs5)
            have s0 := kS8.cell 0 (.int .i64 N) rfl
            have s1 := kS8.cell 1 (.slice oa R.length cap) rfl
            have s2 := kS8.cell 2 (.int .i64 m) rfl
            have s3 := kS8.cell 3 (.int .i64 ((k : Int) + 1)) rfl
            have s4 := kS8.cell 4 (.slice o7 (F.length + 1) c7) rfl
            have s5 := kS8.cell 5 (.int .i64 (t + 1)) rfl
            have z0 := kZ8.cell 0 (.int .i64 0) rfl
            have z1 := kZ8.cell 1 (.slice none 0 0) rfl
            have z2 := kZ8.cell 2 (.int .i64 0) rfl
            have z3 := kZ8.cell 3 (.int .i64 0) rfl
            have z4 := kZ8.cell 4 (.slice none 0 0) rfl
            have z5 := kZ8.cell 5 (.int .i64 0) rfl
            have f0 := kZ8.free 0
            have f1 := kZ8.free 1
            have f2 := kZ8.free 2
            have f3 := kZ8.free 3
            have f4 := kZ8.free 4
            have f5 := kZ8.free 5
            go_wp2
            refine bodyPost_ret (v := .agg #[.int .i64 N, .slice oa R.length cap, .int .i64 m, .int .i64 ((k : Int) + 1), .slice o7 (F.length + 1) c7, .int .i64 (t + 1)]) (by simp [results, Try.results102, go_sem, z0, z1, z2, z3, z4, z5]) rfl ?_
            rw [HV.out]
            have hl9 : (F ++ [(x, r)]).length = F.length + 1 := by simp
            refine ⟨o7, c7, ?_, ?_, ?_, bel_set6 hb8 (Nat.le_succ _) _ _ _ _ _ _⟩
            · show Ending.returned _ = Ending.returned (.agg #[.int .i64 N, .slice oa R.length cap, .int .i64 m, .int .i64 ((k : Int) + 1), .slice o7 (F ++ [(x, r)]).length c7, .int .i64 (t + 1)])
              rw [hl9]
            · show OwnD _ B (.slice o7 (F ++ [(x, r)]).length c7) (F ++ [(x, r)])
              rw [hl9]
              exact OwnD.set6 (hO8.based hbase) (hn7 _ hz5) _ _ _ _ _ _
            · show Fresh w _ (.slice o7 (F ++ [(x, r)]).length c7)
              rw [hl9]
              exact .inr (fun g hg => Nat.le_trans hb2.size (World.ownsRow.lt hO7 g hg).1)
  · refine Calls.mono (Ans.eqb (c_has _ _ hr64 _) h1) ?_
    rintro e w3 ⟨rfl, hbn⟩
    replace kS2 := kS2.keep hbn
    replace kZ2 := kZ2.keep hbn
    replace hF2 := hF2.keep hbn
    replace hb2 := bel_to hb2 hbn
    have HV : Hid (z = (F, t)) := by show z = (F, t); rw [HZ.out, h1]; rfl
    clear hbn d0 d1 s3 s3' f3' kD2
    have s0 := kS2.cell 0 (.int .i64 N) rfl
    have s1 := kS2.cell 1 (.slice oa R.length cap) rfl
    have s2 := kS2.cell 2 (.int .i64 m) rfl
    have s3 := kS2.cell 3 (.int .i64 ((k : Int) + 1)) rfl
    have s4 := kS2.cell 4 (.slice fo F.length fc) rfl
    have s5 := kS2.cell 5 (.int .i64 t) rfl
    have z0 := kZ2.cell 0 (.int .i64 0) rfl
    have z1 := kZ2.cell 1 (.slice none 0 0) rfl
    have z2 := kZ2.cell 2 (.int .i64 0) rfl
    have z3 := kZ2.cell 3 (.int .i64 0) rfl
    have z4 := kZ2.cell 4 (.slice none 0 0) rfl
    have z5 := kZ2.cell 5 (.int .i64 0) rfl
    have f0 := kZ2.free 0
    have f1 := kZ2.free 1
    have f2 := kZ2.free 2
    have f3 := kZ2.free 3
    have f4 := kZ2.free 4
    have f5 := kZ2.free 5
    go_wp2
    refine bodyPost_ret (v := .agg #[.int .i64 N, .slice oa R.length cap, .int .i64 m, .int .i64 ((k : Int) + 1), .slice fo F.length fc, .int .i64 t]) (by simp [results, Try.results102, go_sem, z0, z1, z2, z3, z4, z5]) rfl ?_
    rw [HV.out]
    exact ⟨fo, fc, rfl, OwnD.set6 hF2 hFn.2 _ _ _ _ _ _, Fresh.self _ _, bel_set6 hb2 (Nat.le_succ _) _ _ _ _ _ _⟩
end Go.Proofs.Ytjbmpnbfiahdhaa
namespace Go.Proofs.Ytjbmpnbfiahdhaa
open Go.RowKit
set_option linter.unusedVariables false
set_option maxRecDepth 100000

def rowForF (N : Nat) (x v : Int) : List Int := (List.range N).map fun (c : Nat) => if hasc x c then 0 else v
theorem rowFor_len (N : Nat) (x v : Int) : (rowForF N x v).length = N := by simp [rowForF]
theorem rowFor_nth {N : Nat} {x v : Int} {j : Nat} (h : j < N) : nth (rowForF N x v) j = if hasc x j then 0 else v := by simp [nth, rowForF, List.getD, h]
set_option maxHeartbeats 800000 in
theorem c_rowFor (N : Nat) (hN : N ≤ 5) (x v : Int) (w : World) :
    Calls Try.prog 83 #[.int .i64 N, .int .i64 x, .int .i64 v] w fun e w' => ∃ o c, e = .returned (.slice o N c) ∧ OwnI w' w.heap.size (.slice o N c) (rowForF N x v) ∧ Below w.heap.size w w' := by
  obtain ⟨i0, hi, hz0, hz1, hz2⟩ := info_parts info_int
  go_enter Try.func83, Try.ntmps83
  go_wp2_with (first | (at_make; refine wpList_make_full _ rfl _ _ 68 rfl w.heap.size 3 i0 (.int .i64 0) 1 Try.underlying68 hi hz0 hz1 .i64 .i64 _ _ N rfl rfl rfl rfl (by rw [hz2]; omega) (by unfold maxLen; omega) (Nat.le_refl _) ?_; intro w1 hown hgrow))
  have hI := ownI_made hown
  have hb1 : Below w.heap.size w w1 := below_grown hgrow (Nat.le_refl _) (by simp)
  clear hown hgrow hi hz0 hz1 hz2 i0
  go_loopw [13] (fun i wr => ∃ (k : Nat) (L : List Int), i = .int .i64 k ∧ k ≤ N ∧ L.length = N ∧ (∀ j, j < k → nth L j = if hasc x j then 0 else v) ∧ (∀ j, k ≤ j → j < N → nth L j = 0) ∧ OwnI wr w.heap.size (.slice (some ⟨w.heap.size, 0, none⟩) N N) L ∧ Below w.heap.size w wr) (fun i _ => N - (intOf i).toNat)
  case atStart => exact ⟨0, List.replicate N 0, rfl, Nat.zero_le _, by simp, fun j hj => absurd hj (by omega), fun j _ hj => by simp [nth, List.getD, hj], hI, hb1⟩
  case round =>
    clear hI hb1
    obtain ⟨k, L, rfl, hk, hL, hlo, hhi, hI, hb⟩ := hrel
    have HL : Hid (L.length = N) := hL
    have HLo : Hid (∀ j, j < k → nth L j = if hasc x j then 0 else v) := hlo
    have HHi : Hid (∀ j, k ≤ j → j < N → nth L j = 0) := hhi
    clear hL hlo hhi
    by_cases hlt : k < N
    · have hk64 : 0 ≤ (k : Int) ∧ (k : Int) < 64 := by omega
      cases h1 : hasc x (k : Int)
      · go_wp2_with fail
        refine Calls.mono (Ans.eqb (c_has _ _ hk64 _) h1) ?_
        rintro e w2 ⟨rfl, hbn⟩
        replace hI := hI.keep hbn
        replace hb := bel_to hb hbn
        obtain ⟨hg1, hg2⟩ := hI.cell HL.out.symm k hlt
        have HI2 := (show Hid _ from hI.store HL.out.symm k v)
        have HB2 := (show Hid _ from Below.setCell (p := (⟨w.heap.size, k, none⟩ : Addr)) hb (Nat.le_refl _) (.int .i64 v))
        clear hI hb hbn
        go_wp2
        go_roundw
        case rel =>
          refine ⟨k + 1, L.set k v, by go_num, by omega, by rw [List.length_set]; exact HL.out, lt_step (fun j hj => ?_) ?_, fun j hj1 hj2 => ?_, HI2.out, HB2.out⟩
          · rw [nth_set (by have := HL.out; omega), if_neg (by omega)]; exact HLo.out j hj
          · rw [nth_set (by have := HL.out; omega), if_pos rfl, h1]; rfl
          · rw [nth_set (by have := HL.out; omega), if_neg (by omega)]; exact HHi.out j (by omega) hj2
        case measure => simp [intOf]; omega
      · go_wp2_with fail
        refine Calls.mono (Ans.eqb (c_has _ _ hk64 _) h1) ?_
        rintro e w2 ⟨rfl, hbn⟩
        replace hI := hI.keep hbn
        replace hb := bel_to hb hbn
        clear hbn
        go_wp2
        go_roundw
        case rel => exact ⟨k + 1, L, by go_num, by omega, HL.out, lt_step HLo.out (by rw [HHi.out k (Nat.le_refl _) hlt, h1]; rfl), fun j hj1 hj2 => HHi.out j (by omega) hj2, hI, hb⟩
        case measure => simp [intOf]; omega
    · have hkk : k = N := by omega
      have HE : Hid (L = rowForF N x v) := list_ext (by rw [rowFor_len]; exact HL.out) fun j hj => by
        have h := HL.out
        rw [rowFor_nth (by omega)]
        exact HLo.out j (by omega)
      clear hkk
      go_wp2
      go_ret
      exact ⟨_, _, rfl, by rw [← HE.out]; exact hI, hb⟩
theorem madeI (N : Nat) : (madeCells (Value.cells (.int .i64 0)) (N * 1)).toList = (List.replicate N (0 : Int)).map encI := by
  rw [Nat.mul_one]
  have : (Value.cells (.int .i64 0)) = #[Value.int .i64 0] := rfl
  rw [this, toList_madeCells_one, List.map_replicate]; rfl
theorem apart_lit {v : Value} {g n c : Nat} (h : v.ownBlock ≠ some g) : Apart (.slice (some ⟨g, 0, none⟩) n c) v := Or.inr fun e => h e.symm
/-- Two rows of the call's own, in a slice of their own. -/
theorem two_rows {w : World} {B g : Nat} {oA oB : Option Addr} {n cA cB : Nat} {L M : List Int} (hA : OwnI w B (.slice oA n cA) L) (hB : OwnI w B (.slice oB n cB) M) (hl : L.length = n) (hm : M.length = n) (hap : Apart (.slice oA n cA) (.slice oB n cB))
    (hO : w.ownsRow B 68 1 (.slice (some ⟨g, 0, none⟩) 2 2) 2 [.slice oA n cA, .slice oB n cB]) (hgA : (Value.slice oA n cA).ownBlock ≠ some g) (hgB : (Value.slice oB n cB).ownBlock ≠ some g) : OwnRows w B (.slice (some ⟨g, 0, none⟩) 2 2) [.slice oA n cA, .slice oB n cB] [L, M] := by
  subst hl
  refine ⟨rfl, hO, fun j hj => ?_, fun i j hij hj u u' hu hu' => ?_⟩
  · match j, hj with
    | 0, _ => exact ⟨oA, cA, rfl, hA, apart_lit hgA⟩
    | 1, _ =>
      have e : row [L, M] 1 = M := rfl
      rw [e, hm]
      exact ⟨oB, cB, rfl, hB, apart_lit hgB⟩
  · match i, j, hij, hj with
    | 0, 1, _, _ => simp at hu hu'; subst hu hu'; exact hap
    | 0, 0, h, _ => omega
    | 1, 1, h, _ => omega
    | 1, 0, h, _ => omega
end Go.Proofs.Ytjbmpnbfiahdhaa
namespace Go.Proofs.Ytjbmpnbfiahdhaa
open Go.RowKit
set_option linter.unusedVariables false
set_option maxRecDepth 100000

def ctrF (n : Int) (D : List (Int × Int)) (l r : Int) : Bool := areDepsF n D && (isDepF n l r && !impF D l r)
def ctrR (N : Nat) (D : List (Int × Int)) (l : Int) : List (List Int) := [List.replicate N 0, rowForF N (cloF D l) 1]
theorem bel_set2 {w0 w : World} {B : Nat} (h : Below B w0 w) {k : Nat} (hk : B ≤ k) (b0 b1 : Value) : Below B w0 ((w.setCell ⟨k, 0, none⟩ b0).setCell ⟨k, 1, none⟩ b1) :=
  Below.setCell (p := ⟨k, 1, none⟩) (Below.setCell (p := ⟨k, 0, none⟩) h hk b0) hk b1
set_option maxHeartbeats 800000 in
theorem c_CounterTable_no (n : Int) (oa) (cap : Nat) (D : List (Int × Int)) (l r : Int) (w : World) (hD : DepsAt w oa D) (h : ctrF n D l r = false) :
    Ans Try.prog 34 #[.int .i64 n, .slice oa D.length cap, .agg #[.int .i64 l, .int .i64 r]] w (.tuple #[.agg #[.int .i64 0, .slice none 0 0], .bool false]) := by
  unfold Ans
  have hb := bel2 w (.cells #[.int .i64 l, .int .i64 r] 55) (.cells #[.int .i64 0, .slice none 0 0] 26)
  have kD := (Blk.new w #[.int .i64 l, .int .i64 r] 55).alloc (.cells #[.int .i64 0, .slice none 0 0] 26)
  have kZ := Blk.new (w.alloc (.cells #[.int .i64 l, .int .i64 r] 55)) #[.int .i64 0, .slice none 0 0] 26
  simp only [World.size_alloc] at kZ
  cases ha : areDepsF n D
  · go_enter Try.func34, Try.ntmps34
    go_wp2_with fail
    refine Calls.mono (Ans.eqb (c_AreDeps _ _ _ _ _ (hD.keep hb)) ha) ?_
    rintro e w1 ⟨rfl, hbn⟩
    replace kZ := kZ.keep hbn
    replace hb := bel_to hb hbn
    clear hbn kD
    have z0 := kZ.cell 0 (.int .i64 0) rfl
    have z1 := kZ.cell 1 (.slice none 0 0) rfl
    have f0 := kZ.free 0
    have f1 := kZ.free 1
    go_wp2
    exact bodyPost_ret (v := .tuple #[.agg #[.int .i64 0, .slice none 0 0], .bool false]) (by simp [results, Try.results34, go_sem, z0, z1]) rfl ⟨rfl, bel_set2 hb (Nat.le_succ _) _ _⟩
  · have hv := (areDepsF_val ha).1
    cases hi : isDepF n l r
    · go_enter Try.func34, Try.ntmps34
      go_wp2_with fail
      refine Calls.mono (Ans.eqb (c_AreDeps _ _ _ _ _ (hD.keep hb)) ha) ?_
      rintro e w1 ⟨rfl, hbn⟩
      replace kZ := kZ.keep hbn
      replace kD := kD.keep hbn
      replace hb := bel_to hb hbn
      clear hbn
      have d0 := kD.cell 0 (.int .i64 l) rfl
      have d1 := kD.cell 1 (.int .i64 r) rfl
      go_wp2_with fail
      refine Calls.mono (Ans.eqb (c_isDep _ _ _ _) hi) ?_
      rintro e w2 ⟨rfl, hbn⟩
      replace kZ := kZ.keep hbn
      replace hb := bel_to hb hbn
      clear hbn d0 d1 kD
      have z0 := kZ.cell 0 (.int .i64 0) rfl
      have z1 := kZ.cell 1 (.slice none 0 0) rfl
      have f0 := kZ.free 0
      have f1 := kZ.free 1
      go_wp2
      exact bodyPost_ret (v := .tuple #[.agg #[.int .i64 0, .slice none 0 0], .bool false]) (by simp [results, Try.results34, go_sem, z0, z1]) rfl ⟨rfl, bel_set2 hb (Nat.le_succ _) _ _⟩
    · obtain ⟨⟨hl, hr⟩, h15⟩ := isDepF_val hi
      have hp : impF D l r = true := by unfold ctrF at h; rw [ha, hi] at h; simpa using h
      go_enter Try.func34, Try.ntmps34
      go_wp2_with fail
      refine Calls.mono (Ans.eqb (c_AreDeps _ _ _ _ _ (hD.keep hb)) ha) ?_
      rintro e w1 ⟨rfl, hbn⟩
      replace kZ := kZ.keep hbn
      replace kD := kD.keep hbn
      replace hb := bel_to hb hbn
      clear hbn
      have d0 := kD.cell 0 (.int .i64 l) rfl
      have d1 := kD.cell 1 (.int .i64 r) rfl
      go_wp2_with fail
      refine Calls.mono (Ans.eqb (c_isDep _ _ _ _) hi) ?_
      rintro e w2 ⟨rfl, hbn⟩
      replace kZ := kZ.keep hbn
      replace kD := kD.keep hbn
      replace hb := bel_to hb hbn
      clear hbn d0 d1
      have d0 := kD.cell 0 (.int .i64 l) rfl
      have d1 := kD.cell 1 (.int .i64 r) rfl
      go_wp2_with fail
      refine Calls.mono (Ans.eqb (c_implies _ _ _ _ _ _ (hD.keep hb) hv hl hr) hp) ?_
      rintro e w3 ⟨rfl, hbn⟩
      replace kZ := kZ.keep hbn
      replace hb := bel_to hb hbn
      clear hbn d0 d1 kD
      have z0 := kZ.cell 0 (.int .i64 0) rfl
      have z1 := kZ.cell 1 (.slice none 0 0) rfl
      have f0 := kZ.free 0
      have f1 := kZ.free 1
      go_wp2
      exact bodyPost_ret (v := .tuple #[.agg #[.int .i64 0, .slice none 0 0], .bool false]) (by simp [results, Try.results34, go_sem, z0, z1]) rfl ⟨rfl, bel_set2 hb (Nat.le_succ _) _ _⟩
theorem ctr_made (w3 : World) (N : Nat) (hN : N ≤ 5) : OwnI (w3.alloc (.cells (madeCells #[Value.int .i64 0] N) 3)) w3.heap.size (.slice (some ⟨w3.heap.size, 0, none⟩) N N) (List.replicate N 0) :=
  ownI_made (by simpa [Value.cells] using World.ownsRow_lit w3 (madeCells #[Value.int .i64 0] N) N (Nat.le_refl _) (by unfold maxLen; omega) (by simp [size_madeCells]))
theorem ctr_end {w w3 W : World} {N m : Nat} {o5 : Option Addr} {c5 : Nat} {cl : Int} (hb : Below w.heap.size w w3) (kZ : Blk w3 (w.heap.size + 1) #[.int .i64 0, .slice none 0 0] 26) (h35 : Below w3.heap.size w3 W)
    (hM5 : OwnI W w3.heap.size (.slice (some ⟨m, 0, none⟩) N N) (List.replicate N 0)) (hI6 : OwnI W w3.heap.size (.slice o5 N c5) (rowForF N cl 1)) (hap : Apart (.slice (some ⟨m, 0, none⟩) N N) (.slice o5 N c5)) (W' : World)
    (hW : W' = (((W.alloc (.cells #[Value.slice (some ⟨m, 0, none⟩) N N, Value.slice o5 N c5] 68)).setCell ⟨w.heap.size + 1, 0, none⟩ (.int .i64 N)).setCell ⟨w.heap.size + 1, 1, none⟩ (.slice (some ⟨W.heap.size, 0, none⟩) 2 2))) :
    OwnRows W' w.heap.size (.slice (some ⟨W.heap.size, 0, none⟩) 2 2) [.slice (some ⟨m, 0, none⟩) N N, .slice o5 N c5] [List.replicate N 0, rowForF N cl 1] ∧ Below w.heap.size w W' ∧ W'.cell? ⟨w.heap.size + 1, 0, none⟩ = some (.int .i64 N) ∧ W'.cell? ⟨w.heap.size + 1, 1, none⟩ = some (.slice (some ⟨W.heap.size, 0, none⟩) 2 2) := by
  have hnA : (Value.slice (some ⟨m, 0, none⟩) N N).ownBlock ≠ some W.heap.size := fun e => by have := (World.ownsRow.lt hM5 _ e).2; omega
  have hnB : (Value.slice o5 N c5).ownBlock ≠ some W.heap.size := fun e => by have := (World.ownsRow.lt hI6 _ e).2; omega
  have hba := (Below.refl W.heap.size W).alloc (Nat.le_refl _) (.cells #[Value.slice (some ⟨m, 0, none⟩) N N, Value.slice o5 N c5] 68)
  have hR := two_rows (hM5.keep hba) (hI6.keep hba) (by simp) (rowFor_len _ _ _) hap (World.ownsRow_lit W #[Value.slice (some ⟨m, 0, none⟩) N N, Value.slice o5 N c5] 2 h35.size (by decide) rfl) hnA hnB
  have hk3 : w.heap.size + 1 < w3.heap.size := kZ.lt
  have hR2 := (hR.far_set 0 (.int .i64 N) hk3).far_set 1 (.slice (some ⟨W.heap.size, 0, none⟩) 2 2) hk3
  have hB2 := bel_set2 (bel_to (bel_to hb h35) hba) (k := w.heap.size + 1) (Nat.le_succ _) (.int .i64 N) (.slice (some ⟨W.heap.size, 0, none⟩) 2 2)
  have kZ6 : Blk _ (w.heap.size + 1) #[.int .i64 N, .slice none 0 0] 26 := ((kZ.keep h35).keep hba).set 0 (.int .i64 N)
  have kZ7 : Blk _ (w.heap.size + 1) #[.int .i64 N, .slice (some ⟨W.heap.size, 0, none⟩) 2 2] 26 := kZ6.set 1 (.slice (some ⟨W.heap.size, 0, none⟩) 2 2)
  subst hW
  exact ⟨hR2.based (by omega), hB2, kZ7.cell 0 (.int .i64 N) rfl, kZ7.cell 1 (.slice (some ⟨W.heap.size, 0, none⟩) 2 2) rfl⟩
set_option maxHeartbeats 1600000 in
theorem c_CounterTable_ok (N : Nat) (oa) (cap : Nat) (D : List (Int × Int)) (l r : Int) (w : World) (hD : DepsAt w oa D) (h : ctrF N D l r = true) :
    Calls Try.prog 34 #[.int .i64 N, .slice oa D.length cap, .agg #[.int .i64 l, .int .i64 r]] w fun e w' => ∃ o c xs, e = .returned (.tuple #[.agg #[.int .i64 N, .slice o 2 c], .bool true]) ∧ OwnRows w' w.heap.size (.slice o 2 c) xs (ctrR N D l) ∧ Below w.heap.size w w' := by
  have hb := bel2 w (.cells #[.int .i64 l, .int .i64 r] 55) (.cells #[.int .i64 0, .slice none 0 0] 26)
  have kD := (Blk.new w #[.int .i64 l, .int .i64 r] 55).alloc (.cells #[.int .i64 0, .slice none 0 0] 26)
  have kZ := Blk.new (w.alloc (.cells #[.int .i64 l, .int .i64 r] 55)) #[.int .i64 0, .slice none 0 0] 26
  simp only [World.size_alloc] at kZ
  unfold ctrF at h
  simp only [Bool.and_eq_true, Bool.not_eq_true'] at h
  obtain ⟨ha, hi, hp⟩ := h
  have hv := (areDepsF_val ha).1
  obtain ⟨⟨hl, hr⟩, h15⟩ := isDepF_val hi
  have hN : N ≤ 5 := by omega
  obtain ⟨i0, hii, hz0, hz1, hz2⟩ := info_parts info_int
  go_enter Try.func34, Try.ntmps34
  go_wp2_with fail
  refine Calls.mono (Ans.eqb (c_AreDeps _ _ _ _ _ (hD.keep hb)) ha) ?_
  rintro e w1 ⟨rfl, hbn⟩
  replace kZ := kZ.keep hbn
  replace kD := kD.keep hbn
  replace hb := bel_to hb hbn
  clear hbn
  have d0 := kD.cell 0 (.int .i64 l) rfl
  have d1 := kD.cell 1 (.int .i64 r) rfl
  go_wp2_with fail
  refine Calls.mono (Ans.eqb (c_isDep _ _ _ _) hi) ?_
  rintro e w2 ⟨rfl, hbn⟩
  replace kZ := kZ.keep hbn
  replace kD := kD.keep hbn
  replace hb := bel_to hb hbn
  clear hbn d0 d1
  have d0 := kD.cell 0 (.int .i64 l) rfl
  have d1 := kD.cell 1 (.int .i64 r) rfl
  go_wp2_with fail
  refine Calls.mono (Ans.eqb (c_implies _ _ _ _ _ _ (hD.keep hb) hv hl hr) hp) ?_
  rintro e w3 ⟨rfl, hbn⟩
  replace kZ := kZ.keep hbn
  replace kD := kD.keep hbn
  replace hb := bel_to hb hbn
  clear hbn d0 d1
  have hmk : ∀ w' : World, (Instr.makeSlice 68 (.int .i64 N) (.int .i64 N)).run Try.prog w' = .ok (.slice (some ⟨w'.heap.size, 0, none⟩) N N) (w'.alloc (.cells (madeCells #[Value.int .i64 0] N) 3)) := fun w' => by
    have := run_make w' 68 3 i0 (.int .i64 0) Try.underlying68 hii hz0 .i64 .i64 N N (by omega) (by omega) (by rw [hz2]; omega) (by omega)
    rw [hz1] at this; simpa [Value.cells] using this
  have d0 := kD.cell 0 (.int .i64 l) rfl
  have d0b : (w3.alloc (.cells (madeCells #[Value.int .i64 0] N) 3)).cell? ⟨w.heap.size, 0, none⟩ = some (.int .i64 l) := (kD.alloc _).cell 0 _ rfl
  go_wp2_with fail
  go_region_law (first
    | (go_simp; refine (c_closure oa cap D l _ (hD.keep (by first | exact hb.drew | exact (hb.alloc hb.size _).drew)) hl hv).mono ?_; rintro e w4 ⟨rfl, hbn4⟩; have h34 := bel_to (w := w3) (by first | exact (Below.refl _ _).drew | exact ((Below.refl _ _).alloc (Nat.le_refl _) _).drew) hbn4)
    | (go_simp; refine (c_rowFor N hN _ 1 _).mono ?_; rintro e w5 ⟨o5, c5, rfl, hI5, hb5⟩; have h45 := bel_to (w := w4) (by first | exact (Below.refl _ _) | exact (Below.refl _ _).drew | exact (Below.refl _ _).alloc (Nat.le_refl _) _ | exact ((Below.refl _ _).alloc (Nat.le_refl _) _).drew) hb5; have kZ5 := (kZ.keep h34).keep h45; have q0 := fun c T => (kZ5.alloc (.cells c T)).cell 0 (.int .i64 0) rfl; have q1 := fun c T => (kZ5.alloc (.cells c T)).cell 1 (.slice none 0 0) rfl; have g0 := fun c T => (kZ5.alloc (.cells c T)).free 0; have g1 := fun c T => (kZ5.alloc (.cells c T)).free 1; have qq0 := fun c T c' T' => ((kZ5.alloc (.cells c T)).alloc (.cells c' T')).cell 0 (.int .i64 0) rfl; have qq1 := fun c T c' T' => ((kZ5.alloc (.cells c T)).alloc (.cells c' T')).cell 1 (.slice none 0 0) rfl; have gg0 := fun c T c' T' => ((kZ5.alloc (.cells c T)).alloc (.cells c' T')).free 0; have gg1 := fun c T c' T' => ((kZ5.alloc (.cells c T)).alloc (.cells c' T')).free 1))
  all_goals
    obtain ⟨hR3, hB2, z0, z1⟩ : _ ∧ _ ∧ _ ∧ _ := by
      first
        | exact ctr_end hb kZ (bel_to h34 h45) ((OwnI.keep (w := (w3.alloc (.cells (madeCells #[Value.int .i64 0] N) 3)).drew) (ctr_made w3 N hN) hbn4).keep h45) (hI5.based h34.size) (apart_old (OwnI.keep (w := (w3.alloc (.cells (madeCells #[Value.int .i64 0] N) 3)).drew) (ctr_made w3 N hN) hbn4) hI5) _ rfl
        | exact ctr_end hb kZ (bel_to h34 h45) (OwnI.based ((ctr_made w4 N hN).keep hb5) h34.size) (hI5.based (Nat.le_trans h34.size (by simp))) (apart_old (ctr_made w4 N hN) hI5) _ rfl
        | exact ctr_end hb kZ (bel_to (bel_to h34 h45) ((Below.refl _ _).alloc (Nat.le_refl _) _)) ((ctr_made w5 N hN).based (bel_to h34 h45).size) (OwnI.keep (hI5.based h34.size) ((Below.refl _ _).alloc (Nat.le_refl _) _)) (Apart.symm (apart_old hI5 (ctr_made w5 N hN))) _ rfl
    clear hD hmk d0 d0b q0 q1 g0 g1 qq0 qq1 gg0 gg1 hb5 h45 hI5 kZ5 kZ kD hbn4 h34
    try simp only [World.size_alloc] at z0 z1 hR3 hB2
    go_wp2
    first | exact bodyPost_ret (v := .tuple #[.agg #[.int .i64 N, .slice (some ⟨w5.heap.size, 0, none⟩) 2 2], .bool true]) (by simp [results, Try.results34, go_sem, z0, z1]) rfl ⟨_, _, _, rfl, hR3, hB2⟩ | exact bodyPost_ret (v := .tuple #[.agg #[.int .i64 N, .slice (some ⟨w5.heap.size + 1, 0, none⟩) 2 2], .bool true]) (by simp [results, Try.results34, go_sem, z0, z1]) rfl ⟨_, _, _, rfl, hR3, hB2⟩
end Go.Proofs.Ytjbmpnbfiahdhaa
namespace Go.Proofs.Ytjbmpnbfiahdhaa
open Go.RowKit
set_option linter.unusedVariables false
set_option maxRecDepth 100000

theorem rowFor_succ (k : Nat) (x v : Int) : rowForF (k + 1) x v = rowForF k x v ++ [if hasc x k then 0 else v] := by unfold rowForF; rw [List.range_succ, List.map_append]; rfl
theorem row_bit {x : Int} (hx : St x) {k : Nat} (hk : k < 5) : bits BinOp.and .i64 (x / 2 ^ k) 1 = if hasc x k then 1 else 0 := by
  obtain ⟨n, hn, rfl⟩ := st_nat hx
  have h : ∀ n < 32, ∀ k < 5, bits BinOp.and .i64 ((n : Nat) / 2 ^ k) 1 = if hasc (n : Nat) (k : Nat) then 1 else 0 := by decide +kernel
  exact h n hn k hk
end Go.Proofs.Ytjbmpnbfiahdhaa
namespace Go.Proofs.Ytjbmpnbfiahdhaa
open Go.RowKit
set_option linter.unusedVariables false
set_option maxRecDepth 100000

def ctrO (n : Int) (D : List (Int × Int)) (l r : Int) : List (List Int) := if ctrF n D l r then ctrR n.toNat D l else []
def ctrN (n : Int) (D : List (Int × Int)) (l r : Int) : Int := if ctrF n D l r then n else 0
def CtrAns (f : FuncId) (n : Int) (oa : Option Addr) (cap : Nat) (D : List (Int × Int)) (l r : Int) (w : World) : Prop :=
  Calls Try.prog f #[.int .i64 n, .slice oa D.length cap, .agg #[.int .i64 l, .int .i64 r]] w fun e w' => ∃ o c xs, e = .returned (.tuple #[.agg #[.int .i64 (ctrN n D l r), .slice o (ctrO n D l r).length c], .bool (ctrF n D l r)]) ∧ OwnRows w' w.heap.size (.slice o (ctrO n D l r).length c) xs (ctrO n D l r) ∧ Below w.heap.size w w'
theorem ctr_pos {n : Int} {D : List (Int × Int)} {l r : Int} (h : ctrF n D l r = true) : ∃ N : Nat, n = N ∧ N ≤ 5 := by
  unfold ctrF at h
  simp only [Bool.and_eq_true] at h
  have := (areDepsF_val h.1)
  exact ⟨n.toNat, by omega, by omega⟩
theorem ctr_len (n : Int) (D : List (Int × Int)) (l r : Int) : (ctrO n D l r).length ≤ 2 := by unfold ctrO; split <;> simp [ctrR]
theorem ctr_row (n : Int) (D : List (Int × Int)) (l r : Int) {j : Nat} (hj : j < (ctrO n D l r).length) : (row (ctrO n D l r) j).length ≤ 5 := by
  unfold ctrO at hj ⊢
  cases h : ctrF n D l r
  · rw [h] at hj; simp at hj
  · obtain ⟨N, rfl, hN⟩ := ctr_pos h
    rw [h] at hj
    simp only [if_true, ctrR, Int.toNat_natCast] at hj ⊢
    match j, hj with
    | 0, _ => show (List.replicate N (0 : Int)).length ≤ 5; simp; exact hN
    | 1, _ => show (rowForF N _ 1).length ≤ 5; rw [rowFor_len]; exact hN
theorem c_CounterTable (n : Int) (oa) (cap : Nat) (D : List (Int × Int)) (l r : Int) (w : World) (hD : DepsAt w oa D) : CtrAns 34 n oa cap D l r w := by
  unfold CtrAns ctrN ctrO
  cases h : ctrF n D l r
  · refine (c_CounterTable_no n oa cap D l r w hD h).mono ?_
    rintro e w' ⟨rfl, hb⟩
    exact ⟨none, 0, [], rfl, OwnRows.none _ _, hb⟩
  · obtain ⟨N, rfl, hN⟩ := ctr_pos h
    refine (c_CounterTable_ok N oa cap D l r w hD h).mono ?_
    rintro e w' ⟨o, c, xs, rfl, hO, hb⟩
    exact ⟨o, c, xs, rfl, hO, hb⟩
end Go.Proofs.Ytjbmpnbfiahdhaa
namespace Go.Proofs.Ytjbmpnbfiahdhaa
open Go.RowKit
set_option linter.unusedVariables false
set_option maxRecDepth 100000

abbrev T3 := Int × Int × Int
def ta (L : List T3) (k : Nat) : Int := (L.getD k (0, 0, 0)).1
def tb (L : List T3) (k : Nat) : Int := (L.getD k (0, 0, 0)).2.1
def tc (L : List T3) (k : Nat) : Int := (L.getD k (0, 0, 0)).2.2
structure DersAt (w : World) (oa : Option Addr) (L : List T3) : Prop where
  len : L.length ≤ Room
  at_ : 0 < L.length → ∃ b off, oa = some ⟨b, off, none⟩ ∧ b < w.heap.size ∧
    ∀ k, k < L.length → w.cell? ⟨b, off + k * 3, none⟩ = some (.int .i64 (ta L k)) ∧ w.cell? ⟨b, off + k * 3 + 1, none⟩ = some (.int .i64 (tb L k)) ∧ w.cell? ⟨b, off + k * 3 + 2, none⟩ = some (.int .i64 (tc L k))
theorem DersAt.keep {w w' : World} {oa : Option Addr} {L : List T3} (h : DersAt w oa L) (hb : Below w.heap.size w w') : DersAt w' oa L :=
  ⟨h.len, fun h0 => by
    obtain ⟨b, off, e, hlt, hc⟩ := h.at_ h0
    exact ⟨b, off, e, Nat.lt_of_lt_of_le hlt hb.size, fun k hk => by
      rw [hb.cell (p := ⟨b, off + k * 3, none⟩) hlt, hb.cell (p := ⟨b, off + k * 3 + 1, none⟩) hlt, hb.cell (p := ⟨b, off + k * 3 + 2, none⟩) hlt]; exact hc k hk⟩⟩
def encT (d : T3) : List Value := [.int .i64 d.1, .int .i64 d.2.1, .int .i64 d.2.2]
def tcells (D : List T3) : List Value := D.flatMap encT
theorem tcells_cons (d : T3) (D : List T3) : tcells (d :: D) = .int .i64 d.1 :: .int .i64 d.2.1 :: .int .i64 d.2.2 :: tcells D := rfl
theorem tcells_length : ∀ D : List T3, (tcells D).length = D.length * 3
  | [] => rfl
  | d :: D => by rw [tcells_cons]; simp [tcells_length D]; omega
theorem tcells_append (D E : List T3) : tcells (D ++ E) = tcells D ++ tcells E := by simp [tcells]
theorem tcells_at : ∀ (D : List T3) (k : Nat), k < D.length → (tcells D)[k * 3]? = some (.int .i64 (ta D k)) ∧ (tcells D)[k * 3 + 1]? = some (.int .i64 (tb D k)) ∧ (tcells D)[k * 3 + 2]? = some (.int .i64 (tc D k))
  | [], k, h => absurd h (by simp)
  | d :: D, 0, _ => ⟨rfl, rfl, rfl⟩
  | d :: D, k + 1, h => by
    have := tcells_at D k (by simpa using h)
    rw [tcells_cons, show (k + 1) * 3 = k * 3 + 1 + 1 + 1 by omega, show k * 3 + 1 + 1 + 1 + 1 = (k * 3 + 1) + 1 + 1 + 1 by omega, show k * 3 + 1 + 1 + 1 + 2 = (k * 3 + 2) + 1 + 1 + 1 by omega]
    simp only [List.getElem?_cons_succ]
    exact this
theorem tcells_set : ∀ (D : List T3) (k : Nat) (d : T3), (((tcells D).set (k * 3) (.int .i64 d.1)).set (k * 3 + 1) (.int .i64 d.2.1)).set (k * 3 + 2) (.int .i64 d.2.2) = tcells (D.set k d)
  | [], k, d => by simp [tcells]
  | e :: D, 0, d => rfl
  | e :: D, k + 1, d => by
    have := tcells_set D k d
    rw [List.set_cons_succ, tcells_cons, tcells_cons, show (k + 1) * 3 = k * 3 + 1 + 1 + 1 by omega, show k * 3 + 1 + 1 + 1 + 1 = (k * 3 + 1) + 1 + 1 + 1 by omega, show k * 3 + 1 + 1 + 1 + 2 = (k * 3 + 2) + 1 + 1 + 1 by omega]
    simp only [List.set_cons_succ]
    rw [this]
theorem t_set {L : List T3} {j k : Nat} {x : T3} (hj : j < L.length) : ta (L.set j x) k = (if k = j then x.1 else ta L k) ∧ tb (L.set j x) k = (if k = j then x.2.1 else tb L k) ∧ tc (L.set j x) k = (if k = j then x.2.2 else tc L k) := by
  unfold ta tb tc List.getD
  rw [List.getElem?_set]
  by_cases h : j = k
  · subst h; simp [hj]
  · rw [if_neg h, if_neg (by omega), if_neg (by omega), if_neg (by omega)]; exact ⟨rfl, rfl, rfl⟩
theorem tnth_eq {L : List T3} {k : Nat} (hk : k < L.length) : L[k]? = some (ta L k, tb L k, tc L k) := by
  simp [ta, tb, tc, List.getD, List.getElem?_eq_getElem hk]
theorem tlist_ext {L M : List T3} (hl : L.length = M.length) (h : ∀ k, k < L.length → ta L k = ta M k ∧ tb L k = tb M k ∧ tc L k = tc M k) : L = M := by
  apply List.ext_getElem?
  intro k
  by_cases hk : k < L.length
  · rw [tnth_eq hk, tnth_eq (by omega), (h k hk).1, (h k hk).2.1, (h k hk).2.2]
  · rw [List.getElem?_eq_none (by omega), List.getElem?_eq_none (by omega)]

def OwnT (w : World) (base : Nat) (v : Value) (D : List T3) : Prop := w.ownsRow base 119 3 v D.length (tcells D)
theorem OwnT.keep {w w' : World} {base : Nat} {v : Value} {D : List T3} (h : OwnT w base v D) (hb : Below w.heap.size w w') : OwnT w' base v D := owns_keep h hb
theorem OwnT.reads {w : World} {base : Nat} {v : Value} {D : List T3} (h : OwnT w base v D) (hl : D.length ≤ Room) :
    ∃ oa cap, v = .slice oa D.length cap ∧ DersAt w oa D := by
  obtain ⟨oa, cap, hv, hc⟩ := owns_cells h
  refine ⟨oa, cap, hv, hl, fun h0 => ?_⟩
  obtain ⟨g, ha, hbg, hlt, _, hcell, _⟩ := hc h0
  refine ⟨g, 0, ha, hlt, fun k hk => ?_⟩
  rw [Nat.zero_add, hcell (k * 3) (by omega), hcell (k * 3 + 1) (by omega), hcell (k * 3 + 2) (by omega)]
  exact tcells_at D k hk
theorem OwnT.ders {w : World} {base : Nat} {oa : Option Addr} {n cap : Nat} {L : List T3} (h : OwnT w base (.slice oa n cap) L) (hn : n = L.length) (hl : L.length ≤ Room) : DersAt w oa L := by
  obtain ⟨oa', cap', hv, hI⟩ := h.reads hl
  simp only [Value.slice.injEq] at hv
  rw [hv.1]; exact hI
theorem OwnT.shape {w : World} {base : Nat} {v : Value} {L : List T3} (h : OwnT w base v L) : ∃ oa cap, v = .slice oa L.length cap := by
  obtain ⟨oa, cap, hv, _⟩ := owns_cells h; exact ⟨oa, cap, hv⟩
theorem OwnT.cell {w : World} {base g : Nat} {n cap : Nat} {D : List T3} (h : OwnT w base (.slice (some ⟨g, 0, none⟩) n cap) D) (hn : n = D.length) (k : Nat) (hk : k < n) :
    (w.cell? ⟨g, k * 3, none⟩ = some (.int .i64 (ta D k)) ∧ w.cell? ⟨g, k * 3 + 1, none⟩ = some (.int .i64 (tb D k)) ∧ w.cell? ⟨g, k * 3 + 2, none⟩ = some (.int .i64 (tc D k))) ∧ w.frozen? ⟨g, k * 3, none⟩ = false ∧ w.frozen? ⟨g, k * 3 + 1, none⟩ = false ∧ w.frozen? ⟨g, k * 3 + 2, none⟩ = false := by
  subst hn
  refine ⟨?_, h.frozenAt _, h.frozenAt _, h.frozenAt _⟩
  rw [h.cellAt (k * 3) (by omega), h.cellAt (k * 3 + 1) (by omega), h.cellAt (k * 3 + 2) (by omega)]
  exact tcells_at D k hk
theorem OwnT.store {w : World} {base g : Nat} {n cap : Nat} {D : List T3} (h : OwnT w base (.slice (some ⟨g, 0, none⟩) n cap) D) (hn : n = D.length) (k : Nat) (l r s : Int) :
    OwnT (((w.setCell ⟨g, k * 3, none⟩ (.int .i64 l)).setCell ⟨g, k * 3 + 1, none⟩ (.int .i64 r)).setCell ⟨g, k * 3 + 2, none⟩ (.int .i64 s)) base (.slice (some ⟨g, 0, none⟩) n cap) (D.set k (l, r, s)) := by
  subst hn
  have := (((h.stored (k * 3) (.int .i64 l)).1.stored (k * 3 + 1) (.int .i64 r)).1.stored (k * 3 + 2) (.int .i64 s)).1
  unfold OwnT
  rw [List.length_set, ← tcells_set]
  exact this
theorem madeT (n : Nat) : (madeCells (Value.cells (.agg #[.int .i64 0, .int .i64 0, .int .i64 0])) (n * 3)).toList = tcells (List.replicate n (0, 0, 0)) := by
  apply List.ext_getElem?
  intro j
  have hl : (tcells (List.replicate n (0, 0, 0))).length = n * 3 := by rw [tcells_length]; simp
  by_cases hj : j < n * 3
  · have h2 : j / 3 < (List.replicate n ((0, 0, 0) : T3)).length := by simp; omega
    have hd := tcells_at _ _ h2
    have z : ta (List.replicate n (0, 0, 0)) (j / 3) = 0 ∧ tb (List.replicate n (0, 0, 0)) (j / 3) = 0 ∧ tc (List.replicate n (0, 0, 0)) (j / 3) = 0 := by
      simp only [List.length_replicate] at h2
      unfold ta tb tc List.getD
      rw [List.getElem?_replicate, if_pos h2]; exact ⟨rfl, rfl, rfl⟩
    rw [z.1, z.2.1, z.2.2] at hd
    have h3 : j % 3 = 0 ∨ j % 3 = 1 ∨ j % 3 = 2 := by omega
    rcases h3 with h | h | h
    · have e : j = j / 3 * 3 := by omega
      have := hd.1
      rw [← e] at this
      rw [this]
      simp [madeCells, Value.cells, hj, h]
    · have e : j = j / 3 * 3 + 1 := by omega
      have := hd.2.1
      rw [← e] at this
      rw [this]
      simp [madeCells, Value.cells, hj, h]
    · have e : j = j / 3 * 3 + 2 := by omega
      have := hd.2.2
      rw [← e] at this
      rw [this]
      simp [madeCells, Value.cells, hj, h]
  · have h1 : (madeCells (Value.cells (.agg #[.int .i64 0, .int .i64 0, .int .i64 0])) (n * 3)).toList.length ≤ j := by
      rw [Array.length_toList, size_madeCells]; omega
    rw [List.getElem?_eq_none h1, List.getElem?_eq_none (by rw [hl]; omega)]
theorem info_derived : (Try.prog.info? 119).map (fun i => (i.zero, i.size, i.bytes)) = some (some (.agg #[.int .i64 0, .int .i64 0, .int .i64 0]), 3, 24) := by kernel_rfl
def derEqB (a b c a' b' c' : Int) : Bool := decide (a = a' ∧ b = b' ∧ c = c')
end Go.Proofs.Ytjbmpnbfiahdhaa
namespace Go.Proofs.Ytjbmpnbfiahdhaa
open Go.RowKit
set_option linter.unusedVariables false
set_option maxRecDepth 100000

/-- L is what a derivation lays down from the set x on, looking from place i on. -/
inductive Drv (D : List (Int × Int)) (r : Int) : Int → Nat → List T3 → Prop
  | done {x i} (h : hasc x r = true) : Drv D r x i []
  | stop {x i} (h : hasc x r = false) (hi : D.length ≤ i) : Drv D r x i []
  | take {x i L} (h : hasc x r = false) (hi : i < D.length) (ha : ins (nl D i) x = true) (hb : hasc x (nr D i) = false) (hL : Drv D r (uni x (one (nr D i))) 0 L) : Drv D r x i (((i : Int), x, uni x (one (nr D i))) :: L)
  | skip {x i L} (h : hasc x r = false) (hi : i < D.length) (ha : (ins (nl D i) x && !hasc x (nr D i)) = false) (hL : Drv D r x (i + 1) L) : Drv D r x i L
theorem Drv.same {D : List (Int × Int)} {r x : Int} {i : Nat} {L : List T3} (h : Drv D r x i L) : ∀ {M : List T3}, Drv D r x i M → L = M := by
  induction h with
  | done h => intro M hM; cases hM with
    | done => rfl
    | stop => rfl
    | take h' => rw [h] at h'; cases h'
    | skip h' => rw [h] at h'; cases h'
  | stop h hi => intro M hM; cases hM with
    | done => rfl
    | stop => rfl
    | take _ hi' => omega
    | skip _ hi' => omega
  | take h hi ha hb hL ih => intro M hM; cases hM with
    | done h' => rw [h] at h'; cases h'
    | stop _ hi' => omega
    | take _ _ _ _ hL' => rw [ih hL']
    | skip _ _ ha' => rw [ha, hb] at ha'; cases ha'
  | skip h hi ha hL ih => intro M hM; cases hM with
    | done h' => rw [h] at h'; cases h'
    | stop _ hi' => omega
    | take _ _ ha' hb' => rw [ha', hb'] at ha; cases ha
    | skip _ _ _ hL' => exact ih hL'
def Derives (n : Int) (D : List (Int × Int)) (l r : Int) (L : List T3) : Prop := (impliesDepF n D l r = true → Drv D r l 0 L) ∧ (impliesDepF n D l r = false → L = []) ∧ L.length ≤ 31
theorem Derives.same {n : Int} {D : List (Int × Int)} {l r : Int} {L M : List T3} (h : Derives n D l r L) (k : Derives n D l r M) : L = M := by
  cases e : impliesDepF n D l r with
  | false => rw [h.2.1 e, k.2.1 e]
  | true => exact (h.1 e).same (k.1 e)
theorem OwnT.joined {w : World} {base : Nat} {v : Value} {A B : List T3} (h : w.ownsRow base 119 3 v (A.length + B.length) (tcells A ++ tcells B)) : OwnT w base v (A ++ B) := by
  unfold OwnT
  rw [List.length_append, tcells_append]
  exact h
theorem OwnT.snoc {w : World} {base : Nat} {v : Value} {A : List T3} {a b c : Int} (h : w.ownsRow base 119 3 v (A.length + 1) (tcells A ++ [.int .i64 a, .int .i64 b, .int .i64 c])) : OwnT w base v (A ++ [(a, b, c)]) := OwnT.joined (B := [(a, b, c)]) h
theorem OwnT.nil (w : World) (base : Nat) : OwnT w base (.slice none 0 0) [] := ⟨rfl, Or.inl ⟨rfl, rfl⟩⟩
theorem OwnT.empty (w : World) (base : Nat) (hb : base ≤ w.heap.size) : OwnT (w.alloc (.cells #[] 119)) base (.slice (some ⟨w.heap.size, 0, none⟩) 0 0) [] := World.ownsRow_lit w #[] 0 hb (Nat.zero_le _) rfl
theorem OwnT.based {w : World} {base base' : Nat} {v : Value} {L : List T3} (h : OwnT w base v L) (hb : base' ≤ base) : OwnT w base' v L := owns_base h hb
theorem cell_alloc {w : World} {a : Addr} {v : Value} (h : w.cell? a = some v) (o : Obj) : (w.alloc o).cell? a = some v := cell_keep h ((Below.refl w.heap.size w).alloc (Nat.le_refl _) o)
theorem cell_grow {a b : World} {B base j e size n : Nat} {u v : Value} {xs : List Value} (hc : a.cell? ⟨B, j, none⟩ = some u) (hI : a.ownsRow base e size v n xs) (hB : B < base) (hg : a.grownBy b v.ownBlock) : b.cell? ⟨B, j, none⟩ = some u :=
  (hg.cell_far ⟨B, j, none⟩ (World.block_lt_of_cell? a _ hc) (fun e => by
    have := (World.ownsRow.lt hI B e.symm).1
    omega)).trans hc
end Go.Proofs.Ytjbmpnbfiahdhaa
namespace Go.Proofs.Ytjbmpnbfiahdhaa
open Go.RowKit
set_option linter.unusedVariables false
set_option maxRecDepth 100000

def stepOk (D : List (Int × Int)) (x : Int) (s : T3) : Bool := inB s.1 0 ((D.length : Int) - 1) && (s.2.1 == x && (insA (nl D s.1.toNat) x && s.2.2 == uni x (one (nr D s.1.toNat))))
def chk (D : List (Int × Int)) (r : Int) : List T3 → Int → Bool
  | [], x => hasc x r
  | s :: S, x => stepOk D x s && chk D r S s.2.2
def checkF (n : Int) (D : List (Int × Int)) (l r : Int) (S : List T3) : Bool := areDepsF n D && (isDepF n l r && chk D r S l)
theorem chk_step {D : List (Int × Int)} {r : Int} {S : List T3} {k : Nat} (hk : k < S.length) (x : Int) : chk D r (S.drop k) x = (stepOk D x (ta S k, tb S k, tc S k) && chk D r (S.drop (k + 1)) (tc S k)) := by
  have e : S.drop k = (ta S k, tb S k, tc S k) :: S.drop (k + 1) := by
    rw [List.drop_eq_getElem_cons hk]
    congr 1
    have := tnth_eq hk
    rw [List.getElem?_eq_getElem hk] at this
    exact Option.some.inj this
  rw [e]; rfl

set_option maxHeartbeats 3200000 in
theorem c_specCheckDerivation (n : Int) (oa) (cap : Nat) (D : List (Int × Int)) (l r : Int) (ob) (cbp : Nat) (S : List T3) (w : World) (hD : DepsAt w oa D) (hS : DersAt w ob S) :
    Ans Try.prog 50 #[.int .i64 n, .slice oa D.length cap, .agg #[.int .i64 l, .int .i64 r], .slice ob S.length cbp] w (.bool (checkF n D l r S)) := by
  unfold Ans
  have hnD : D.length ≤ 1073741824 := hD.len
  have hnS : S.length ≤ 1073741824 := hS.len
  have hb := (Below.refl w.heap.size w).alloc (Nat.le_refl _) (.cells #[.int .i64 l, .int .i64 r] 55)
  have b0 := box_at w #[.int .i64 l, .int .i64 r] 55 0 _ rfl
  have b1 := box_at w #[.int .i64 l, .int .i64 r] 55 1 _ rfl
  cases ha : areDepsF n D
  · go_enter Try.func50, Try.ntmps50
    go_wp2_with (first | (go_at_call 37; refine Calls.mono (Ans.eqb (c_specAreDeps _ _ _ _ _ (hD.keep hb)) ha) ?_; rintro e w1 ⟨rfl, hbn⟩; replace hb := bel_to (w := w) (by first | exact hb | exact hb.alloc hb.size _ | exact (hb.alloc hb.size _).alloc (Nat.le_trans hb.size (by simp)) _ | exact hb.setCell (by simp [hb.size]) _) hbn; clear hbn))
    go_ret
    exact ⟨ret_bool (by simp [checkF, ha]), hb⟩
  · have hv := (areDepsF_val ha).1
    have hD20 := (areDepsF_val ha).2.2.2
    cases hi : isDepF n l r
    · go_enter Try.func50, Try.ntmps50
      go_wp2_with (first | (go_at_call 37; refine Calls.mono (Ans.eqb (c_specAreDeps _ _ _ _ _ (hD.keep hb)) ha) ?_; rintro e w1 ⟨rfl, hbn⟩; replace b0 := cell_keep b0 hbn; replace b1 := cell_keep b1 hbn; replace hb := bel_to (w := w) (by first | exact hb | exact hb.alloc hb.size _ | exact (hb.alloc hb.size _).alloc (Nat.le_trans hb.size (by simp)) _ | exact hb.setCell (by simp [hb.size]) _) hbn; clear hbn) | (go_at_call 38; refine Calls.mono (Ans.eqb (c_specIsDep _ _ _ _) hi) ?_; rintro e w1 ⟨rfl, hbn⟩; replace hb := bel_to (w := w) (by first | exact hb | exact hb.alloc hb.size _ | exact (hb.alloc hb.size _).alloc (Nat.le_trans hb.size (by simp)) _ | exact hb.setCell (by simp [hb.size]) _) hbn; clear hbn))
      go_ret
      exact ⟨ret_bool (by simp [checkF, ha, hi]), hb⟩
    · obtain ⟨⟨hl, hr⟩, h15⟩ := isDepF_val hi
      have hr0 : 0 ≤ r := hr.1
      have hr1 : r < 5 := hr.2
      have HM : Hid (checkF n D l r S = chk D r S l) := by unfold checkF; rw [ha, hi]; rfl
      go_enter Try.func50, Try.ntmps50
      go_wp2_with (first | (go_at_call 37; refine Calls.mono (Ans.eqb (c_specAreDeps _ _ _ _ _ (hD.keep hb)) ha) ?_; rintro e w1 ⟨rfl, hbn⟩; replace b0 := cell_keep b0 hbn; replace b1 := cell_keep b1 hbn; replace hb := bel_to (w := w) (by first | exact hb | exact hb.alloc hb.size _ | exact (hb.alloc hb.size _).alloc (Nat.le_trans hb.size (by simp)) _ | exact hb.setCell (by simp [hb.size]) _) hbn; clear hbn) | (go_at_call 38; refine Calls.mono (Ans.eqb (c_specIsDep _ _ _ _) hi) ?_; rintro e w1 ⟨rfl, hbn⟩; replace b0 := cell_keep b0 hbn; replace b1 := cell_keep b1 hbn; replace hb := bel_to (w := w) (by first | exact hb | exact hb.alloc hb.size _ | exact (hb.alloc hb.size _).alloc (Nat.le_trans hb.size (by simp)) _ | exact hb.setCell (by simp [hb.size]) _) hbn; clear hbn))
      go_loopw [9, 10] (fun t i wr => ∃ (x : Int) (k : Nat), t = .int .i64 x ∧ i = .int .i64 k ∧ k ≤ S.length ∧ St x ∧ chk D r (S.drop k) x = chk D r S l ∧ wr.cell? ⟨w.heap.size, 0, none⟩ = some (.int .i64 l) ∧ wr.cell? ⟨w.heap.size, 1, none⟩ = some (.int .i64 r) ∧ Below w.heap.size w wr) (fun _ i _ => S.length - (intOf i).toNat)
      case atStart => exact ⟨l, 0, rfl, rfl, Nat.zero_le _, hl, rfl, b0, b1, hb⟩
      case round =>
        clear b0 b1 hb
        obtain ⟨x, k, rfl, rfl, hk, hx, hro, b0, b1, hb⟩ := hrel
        have HR : Hid (chk D r (S.drop k) x = chk D r S l) := hro
        clear hro
        by_cases hlt : k < S.length
        · obtain ⟨bs, offs, rfl, hbs, hcs⟩ := hS.at_ (by omega)
          have s0 := cell_keep (hcs k hlt).1 hb
          have s1 := cell_keep (hcs k hlt).2.1 hb
          have s2 := cell_keep (hcs k hlt).2.2 hb
          have HC : Hid (chk D r (S.drop k) x = (stepOk D x (ta S k, tb S k, tc S k) && chk D r (S.drop (k + 1)) (tc S k))) := chk_step hlt x
          clear hcs
          generalize ta S k = a at *
          generalize tb S k = b at *
          generalize tc S k = c at *
          have hb2 := hb.alloc hb.size (.cells #[.int .i64 a, .int .i64 b, .int .i64 c] 119)
          have hbx := (Below.refl wr.heap.size wr).alloc (Nat.le_refl _) (.cells #[.int .i64 a, .int .i64 b, .int .i64 c] 119)
          have c0 := box_at wr #[.int .i64 a, .int .i64 b, .int .i64 c] 119 0 _ rfl
          have c1 := box_at wr #[.int .i64 a, .int .i64 b, .int .i64 c] 119 1 _ rfl
          have c2 := box_at wr #[.int .i64 a, .int .i64 b, .int .i64 c] 119 2 _ rfl
          replace b0 := cell_keep b0 hbx
          replace b1 := cell_keep b1 hbx
          clear hbx
          cases h1 : inB a 0 ((D.length : Int) - 1)
          · have HE : Hid (chk D r S l = false) := by rw [← HR.out, HC.out]; unfold stepOk; rw [h1]; rfl
            clear HR HC
            replace hb := hb2
            clear hb2
            go_wp2_with fail
            (refine wp_region_after (by kernel_rfl) (by kernel_rfl) ?_; have q_c0 := fun (x : After _) => cell_keep c0 x.bel; have q_c1 := fun (x : After _) => cell_keep c1 x.bel; have q_c2 := fun (x : After _) => cell_keep c2 x.bel; (repeat (go_big_quiet_step ((first | (go_at_call 109; exact Ans.after (Ans.eqb (c_l1In _ _ _ _) h1)))))); clear q_c0; clear q_c1; clear q_c2; refine wpQuiet_nil ?_; rintro _ ⟨⟨w1, hbn⟩, rfl⟩; (try simp only [After.w]); replace c0 := cell_keep c0 hbn; replace c1 := cell_keep c1 hbn; replace c2 := cell_keep c2 hbn; replace hb := bel_to (w := w) (by first | exact hb | exact hb.alloc hb.size _ | exact (hb.alloc hb.size _).alloc (Nat.le_trans hb.size (by simp)) _ | exact hb.setCell (by simp [hb.size]) _) hbn; clear hbn)
            go_wp2
            go_ret
            exact ⟨ret_bool (by rw [HM.out, HE.out]), hb⟩
          · cases e1 : (b == x)
            · have e1' : (b != x) = true := by simp [bne, e1]
              have HE : Hid (chk D r S l = false) := by rw [← HR.out, HC.out]; unfold stepOk; rw [h1]; simp only [e1]; rfl
              clear HR HC
              replace hb := hb2
              clear hb2
              go_wp2_with fail
              (refine wp_region_after (by kernel_rfl) (by kernel_rfl) ?_; have q_c0 := fun (x : After _) => cell_keep c0 x.bel; have q_c1 := fun (x : After _) => cell_keep c1 x.bel; have q_c2 := fun (x : After _) => cell_keep c2 x.bel; (repeat (go_big_quiet_step ((first | (go_at_call 109; exact Ans.after (Ans.eqb (c_l1In _ _ _ _) h1)))))); clear q_c0; clear q_c1; clear q_c2; refine wpQuiet_nil ?_; rintro _ ⟨⟨w1, hbn⟩, rfl⟩; (try simp only [After.w]); replace c0 := cell_keep c0 hbn; replace c1 := cell_keep c1 hbn; replace c2 := cell_keep c2 hbn; replace hb := bel_to (w := w) (by first | exact hb | exact hb.alloc hb.size _ | exact (hb.alloc hb.size _).alloc (Nat.le_trans hb.size (by simp)) _ | exact hb.setCell (by simp [hb.size]) _) hbn; clear hbn)
              go_wp2
              go_ret
              exact ⟨ret_bool (by rw [HM.out, HE.out]), hb⟩
            · have e1' : (b != x) = false := by simp [bne, e1]
              have ha1 : 0 ≤ a ∧ a ≤ (D.length : Int) - 1 := by simpa [inB] using h1
              obtain ⟨j, rfl⟩ := Int.eq_ofNat_of_zero_le ha1.1
              have hjl : j < D.length := by omega
              obtain ⟨bD, offD, rfl, hbD, hcD⟩ := hD.at_ (by omega)
              have d0 := cell_keep (hcD j hjl).1 hb2
              have d1 := cell_keep (hcD j hjl).2 hb2
              obtain ⟨hvl, hvr⟩ := hv.at_ hjl
              have hr0 : 0 ≤ nr D j := hvr.1
              have hr1 : nr D j < 5 := hvr.2
              have q1 : (0 : Int) ≤ (j : Int) := ha1.1
              have q2 : (j : Int) < (D.length : Int) := by omega
              clear ha1 hcD
              cases h3 : insA (nl D j) x
              · have h3' : (bits BinOp.and IntKind.i64 (nl D j) x == nl D j) = false := h3
                have h3'' : (bits BinOp.and IntKind.i64 (nl D j) x != nl D j) = true := by simp [bne, h3']
                have HE : Hid (chk D r S l = false) := by rw [← HR.out, HC.out]; unfold stepOk; rw [h1]; simp only [e1, Int.toNat_natCast, h3]; rfl
                clear HR HC h3
                replace hb := hb2
                clear hb2
                go_wp2_with fail
                (refine wp_region_after (by kernel_rfl) (by kernel_rfl) ?_; have q_c0 := fun (x : After _) => cell_keep c0 x.bel; have q_c1 := fun (x : After _) => cell_keep c1 x.bel; have q_c2 := fun (x : After _) => cell_keep c2 x.bel; have q_d0 := fun (x : After _) => cell_keep d0 x.bel; have q_d1 := fun (x : After _) => cell_keep d1 x.bel; (repeat (go_big_quiet_step ((first | (go_at_call 109; exact Ans.after (Ans.eqb (c_l1In _ _ _ _) h1)))))); clear q_c0; clear q_c1; clear q_c2; clear q_d0; clear q_d1; refine wpQuiet_nil ?_; rintro _ ⟨⟨w1, hbn⟩, rfl⟩; (try simp only [After.w]); replace c0 := cell_keep c0 hbn; replace c1 := cell_keep c1 hbn; replace c2 := cell_keep c2 hbn; replace d0 := cell_keep d0 hbn; replace d1 := cell_keep d1 hbn; replace hb := bel_to (w := w) (by first | exact hb | exact hb.alloc hb.size _ | exact (hb.alloc hb.size _).alloc (Nat.le_trans hb.size (by simp)) _ | exact hb.setCell (by simp [hb.size]) _) hbn; clear hbn)
                go_wp2
                go_ret
                exact ⟨ret_bool (by rw [HM.out, HE.out]), hb⟩
              · have h3' : (bits BinOp.and IntKind.i64 (nl D j) x == nl D j) = true := h3
                have h3'' : (bits BinOp.and IntKind.i64 (nl D j) x != nl D j) = false := by simp [bne, h3']
                cases h4 : (c == uni x (one (nr D j)))
                · have h4' : (c == bits BinOp.or IntKind.i64 x (wrap64 (2 ^ (nr D j).toNat))) = false := h4
                  have h4'' : (c != bits BinOp.or IntKind.i64 x (wrap64 (2 ^ (nr D j).toNat))) = true := by simp [bne, h4']
                  have HE : Hid (chk D r S l = false) := by rw [← HR.out, HC.out]; unfold stepOk; rw [h1]; simp only [e1, Int.toNat_natCast, h3, h4]; rfl
                  clear HR HC h3 h4
                  replace hb := hb2
                  clear hb2
                  go_wp2_with fail
                  (refine wp_region_after (by kernel_rfl) (by kernel_rfl) ?_; have q_c0 := fun (x : After _) => cell_keep c0 x.bel; have q_c1 := fun (x : After _) => cell_keep c1 x.bel; have q_c2 := fun (x : After _) => cell_keep c2 x.bel; have q_d0 := fun (x : After _) => cell_keep d0 x.bel; have q_d1 := fun (x : After _) => cell_keep d1 x.bel; (repeat (go_big_quiet_step ((first | (go_at_call 109; exact Ans.after (Ans.eqb (c_l1In _ _ _ _) h1)))))); clear q_c0; clear q_c1; clear q_c2; clear q_d0; clear q_d1; refine wpQuiet_nil ?_; rintro _ ⟨⟨w1, hbn⟩, rfl⟩; (try simp only [After.w]); replace c0 := cell_keep c0 hbn; replace c1 := cell_keep c1 hbn; replace c2 := cell_keep c2 hbn; replace d0 := cell_keep d0 hbn; replace d1 := cell_keep d1 hbn; replace hb := bel_to (w := w) (by first | exact hb | exact hb.alloc hb.size _ | exact (hb.alloc hb.size _).alloc (Nat.le_trans hb.size (by simp)) _ | exact hb.setCell (by simp [hb.size]) _) hbn; clear hbn)
                  go_wp2
                  go_ret
                  exact ⟨ret_bool (by rw [HM.out, HE.out]), hb⟩
                · have h4' : (c == bits BinOp.or IntKind.i64 x (wrap64 (2 ^ (nr D j).toNat))) = true := h4
                  have h4'' : (c != bits BinOp.or IntKind.i64 x (wrap64 (2 ^ (nr D j).toNat))) = false := by simp [bne, h4']
                  have HE : Hid (chk D r (S.drop (k + 1)) c = chk D r S l) := by rw [← HR.out, HC.out]; unfold stepOk; rw [h1]; simp only [e1, Int.toNat_natCast, h3, h4]; rfl
                  have HST : Hid (St c) := by rw [show c = uni x (one (nr D j)) by simpa using h4]; exact uni_st hx (one_st hvr)
                  clear HR HC h3 h4
                  replace hb := hb2
                  clear hb2
                  go_wp2_with fail
                  (refine wp_region_after (by kernel_rfl) (by kernel_rfl) ?_; have q_c0 := fun (x : After _) => cell_keep c0 x.bel; have q_c1 := fun (x : After _) => cell_keep c1 x.bel; have q_c2 := fun (x : After _) => cell_keep c2 x.bel; have q_d0 := fun (x : After _) => cell_keep d0 x.bel; have q_d1 := fun (x : After _) => cell_keep d1 x.bel; have q_b0 := fun (x : After _) => cell_keep b0 x.bel; have q_b1 := fun (x : After _) => cell_keep b1 x.bel; (repeat (go_big_quiet_step ((first | (go_at_call 109; exact Ans.after (Ans.eqb (c_l1In _ _ _ _) h1)))))); clear q_c0; clear q_c1; clear q_c2; clear q_d0; clear q_d1; clear q_b0; clear q_b1; refine wpQuiet_nil ?_; rintro _ ⟨⟨w1, hbn⟩, rfl⟩; (try simp only [After.w]); replace c0 := cell_keep c0 hbn; replace c1 := cell_keep c1 hbn; replace c2 := cell_keep c2 hbn; replace d0 := cell_keep d0 hbn; replace d1 := cell_keep d1 hbn; replace b0 := cell_keep b0 hbn; replace b1 := cell_keep b1 hbn; replace hb := bel_to (w := w) (by first | exact hb | exact hb.alloc hb.size _ | exact (hb.alloc hb.size _).alloc (Nat.le_trans hb.size (by simp)) _ | exact hb.setCell (by simp [hb.size]) _) hbn; clear hbn)
                  go_wp2
                  go_roundw
                  case rel => exact ⟨c, k + 1, rfl, by go_num, by omega, HST.out, HE.out, b0, b1, hb⟩
                  case measure => simp [intOf]; omega
        · have hkk : k = S.length := by omega
          have HE : Hid (hasc x r = chk D r S l) := by rw [← HR.out, hkk, List.drop_length]; rfl
          clear hkk HR
          go_wp2
          go_ret
          exact ⟨ret_bool (by rw [HM.out, ← HE.out]; rfl), hb⟩
end Go.Proofs.Ytjbmpnbfiahdhaa
namespace Go.Proofs.Ytjbmpnbfiahdhaa
open Go.RowKit
set_option linter.unusedVariables false
set_option maxRecDepth 100000

def sameB (R : List (List Int)) (m s : Int) (i k : Nat) : Bool := ins s (agreeF m (row R i) (row R k))
def tkQ (q : Nat → Nat → Bool) (i k : Nat) : Bool := (List.range i).any fun j => decide (j < k) && q j k
def clsTo (q : Nat → Nat → Bool) (i t : Nat) : List Int := (i : Int) :: (((List.range t).filter fun k => decide (i < k) && q i k).map fun (k : Nat) => (k : Int))
def headQ (q : Nat → Nat → Bool) (N j : Nat) : Bool := !tkQ q j j && decide (1 < (clsTo q j N).length)
def ptnQ (q : Nat → Nat → Bool) (N i : Nat) : List (List Int) := ((List.range i).filter (headQ q N)).map fun j => clsTo q j N
/-- What lies in one class with the same row lies in one class. -/
structure Per (q : Nat → Nat → Bool) (N : Nat) : Prop where
  tr : ∀ i j k, i < N → j < N → q i j = true → q j k = true → q i k = true
  eu : ∀ i j k, i < N → j < N → q j k = true → q i k = true → q j i = true
def ptnOk (n : Int) (R : List (List Int)) (m s : Int) : Bool := (isTabF n R && modeF m) && isAttr n s
def ptnF (n : Int) (R : List (List Int)) (m s : Int) : List (List Int) := if ptnOk n R m s then ptnQ (sameB R m s) R.length R.length else []

theorem eqCell_iff {m a b : Int} : eqCellF m a b = true ↔ modeF m = true ∧ a = b ∧ (m = 0 ∨ a ≠ -1) := by
  unfold eqCellF; simp
theorem eqCell_trans {m a b c : Int} (h : eqCellF m a b = true) (k : eqCellF m b c = true) : eqCellF m a c = true := by
  rw [eqCell_iff] at *
  obtain ⟨h1, rfl, h3⟩ := h
  exact ⟨h1, k.2.1, h3⟩
theorem eqCell_symm {m a b : Int} (h : eqCellF m a b = true) : eqCellF m b a = true := by
  rw [eqCell_iff] at *
  obtain ⟨h1, rfl, h3⟩ := h
  exact ⟨h1, rfl, h3⟩
theorem eqCell_euc {m a b c : Int} (h : eqCellF m a b = true) (k : eqCellF m c b = true) : eqCellF m a c = true := eqCell_trans h (eqCell_symm k)
theorem hasc_agreeTo {m : Int} {A B : List Int} {c : Int} (hc : Co c) : ∀ k, k ≤ 5 → hasc ((List.range k).foldl (agreeStep m A B) 0) c = (decide (c.toNat < k) && eqCellF m (nth A c.toNat) (nth B c.toNat))
  | 0, _ => by
    obtain ⟨j, hj, rfl⟩ := co_nat hc
    have h : ∀ j < 5, hasc 0 ((j : Nat) : Int) = false := by decide +kernel
    simp [h j hj]
  | k + 1, hk => by
    have ih := hasc_agreeTo (m := m) (A := A) (B := B) hc k (by omega)
    have hst : ∀ k, k ≤ 5 → St ((List.range k).foldl (agreeStep m A B) 0) := by
      intro k
      induction k with
      | zero => intro _; exact ⟨by simp, by simp⟩
      | succ k ih => intro hk; rw [range_succ_fold]; exact agreeStep_st (ih (by omega)) (by omega)
    rw [range_succ_fold]
    generalize hx : (List.range k).foldl (agreeStep m A B) 0 = x at *
    have hs : St x := by rw [← hx]; exact hst k (by omega)
    have hck : Co (k : Int) := ⟨by omega, by omega⟩
    have hc0 := hc.1
    unfold agreeStep
    by_cases e : c.toNat = k
    · have ec : c = (k : Int) := by omega
      subst ec
      cases he : eqCellF m (nth A k) (nth B k)
      · simp [ih, he]
      · simp only [if_true]
        rw [hasc_uni hs (one_st hck) hck, hasc_one hck hck]
        simp [he]
    · have e1 : decide (c.toNat < k + 1) = decide (c.toNat < k) := by rw [decide_eq_decide]; omega
      rw [e1, ← ih]
      split
      · rw [hasc_uni hs (one_st hck) hc, hasc_one hck hc]
        have : ((k : Int) == c) = false := by simp; omega
        rw [this, Bool.or_false]
      · rfl
theorem hasc_agree {m : Int} {A B : List Int} {c : Int} (hc : Co c) (h : A.length ≤ 5) : hasc (agreeF m A B) c = (decide (c.toNat < A.length) && eqCellF m (nth A c.toNat) (nth B c.toNat)) := hasc_agreeTo hc _ h
theorem same_iff {n : Int} {R : List (List Int)} {m s : Int} {i k : Nat} (ht : isTabF n R = true) (hs : St s) (hi : i < R.length) :
    sameB R m s i k = true ↔ ∀ c, Co c → hasc s c = true → c.toNat < n.toNat ∧ eqCellF m (nth (row R i) c.toNat) (nth (row R k) c.toNat) = true := by
  obtain ⟨hn1, hn5, _, hl⟩ := isTab_of ht
  have li := hl i hi
  have hA : (row R i).length ≤ 5 := by omega
  unfold sameB
  rw [ins_iff hs (agreeF_st hA)]
  refine ⟨fun h c hc h1 => ?_, fun h c hc h1 => ?_⟩
  · have h2 := h c hc h1
    rw [hasc_agree hc hA] at h2
    simp only [Bool.and_eq_true, decide_eq_true_eq] at h2
    exact ⟨by omega, h2.2⟩
  · obtain ⟨h2, h3⟩ := h c hc h1
    rw [hasc_agree hc hA, h3, decide_eq_true (show c.toNat < (row R i).length by omega)]; rfl
theorem same_trans {n : Int} {R : List (List Int)} {m s : Int} {i j k : Nat} (ht : isTabF n R = true) (hs : St s) (hi : i < R.length) (hj : j < R.length) (h1 : sameB R m s i j = true) (h2 : sameB R m s j k = true) : sameB R m s i k = true := by
  have q1 := (same_iff ht hs hi).1 h1
  have q2 := (same_iff ht hs hj).1 h2
  refine (same_iff ht hs hi).2 fun c hc h => ?_
  exact ⟨(q1 c hc h).1, eqCell_trans (q1 c hc h).2 (q2 c hc h).2⟩
theorem same_euc {n : Int} {R : List (List Int)} {m s : Int} {i j k : Nat} (ht : isTabF n R = true) (hs : St s) (hi : i < R.length) (hj : j < R.length) (h1 : sameB R m s j k = true) (h2 : sameB R m s i k = true) : sameB R m s j i = true := by
  have q1 := (same_iff ht hs hj).1 h1
  have q2 := (same_iff ht hs hi).1 h2
  refine (same_iff ht hs hj).2 fun c hc h => ?_
  exact ⟨(q1 c hc h).1, eqCell_euc (q1 c hc h).2 (q2 c hc h).2⟩
theorem same_per {n : Int} {R : List (List Int)} {m s : Int} (ht : isTabF n R = true) (hs : St s) : Per (sameB R m s) R.length :=
  ⟨fun _ _ _ hi hj => same_trans ht hs hi hj, fun _ _ _ hi hj => same_euc ht hs hi hj⟩
theorem tk_succ (q : Nat → Nat → Bool) (i k : Nat) : tkQ q (i + 1) k = (tkQ q i k || (decide (i < k) && q i k)) := by
  unfold tkQ; rw [List.range_succ, List.any_append]; simp
theorem tk_iff {q : Nat → Nat → Bool} {i k : Nat} : tkQ q i k = true ↔ ∃ j, j < i ∧ j < k ∧ q j k = true := by
  unfold tkQ
  rw [List.any_eq_true]
  simp only [List.mem_range, Bool.and_eq_true, decide_eq_true_eq]
theorem tk_taken {q : Nat → Nat → Bool} {N i : Nat} (hp : Per q N) (hi : i < N) (h : tkQ q i i = true) (k : Nat) : tkQ q (i + 1) k = tkQ q i k := by
  rw [tk_succ]
  cases e : (decide (i < k) && q i k)
  · simp
  · simp only [Bool.and_eq_true, decide_eq_true_eq] at e
    obtain ⟨j, hj, _, h1⟩ := tk_iff.1 h
    have : tkQ q i k = true := tk_iff.2 ⟨j, hj, by omega, hp.tr _ _ _ (by omega) hi h1 e.2⟩
    rw [this]; rfl
theorem tk_free {q : Nat → Nat → Bool} {N i k : Nat} (hp : Per q N) (hi : i < N) (h : tkQ q i i = false) (hk : q i k = true) : tkQ q i k = false := by
  cases e : tkQ q i k
  · rfl
  · obtain ⟨j, hj, _, h1⟩ := tk_iff.1 e
    have : tkQ q i i = true := tk_iff.2 ⟨j, hj, hj, hp.eu _ _ _ hi (by omega) h1 hk⟩
    rw [h] at this; cases this
theorem cls_succ (q : Nat → Nat → Bool) (i t : Nat) : clsTo q i (t + 1) = clsTo q i t ++ (if decide (i < t) && q i t then [(t : Int)] else []) := by
  unfold clsTo
  rw [List.range_succ, List.filter_append, List.map_append, List.cons_append]
  congr 2
  cases h : (decide (i < t) && q i t) <;> simp [List.filter_cons, h]
theorem cls_first (q : Nat → Nat → Bool) (i : Nat) : clsTo q i (i + 1) = [(i : Int)] := by
  unfold clsTo
  have : (List.range (i + 1)).filter (fun k => decide (i < k) && q i k) = [] := by
    rw [List.filter_eq_nil_iff]
    intro k hk
    have := List.mem_range.1 hk
    rw [decide_eq_false (show ¬ i < k by omega)]; simp
  rw [this]; rfl
theorem cls_len (q : Nat → Nat → Bool) (i t : Nat) : (clsTo q i t).length ≤ t + 1 := by
  unfold clsTo
  rw [List.length_cons, List.length_map]
  have := List.length_filter_le (fun k => decide (i < k) && q i k) (List.range t)
  rw [List.length_range] at this
  omega
theorem cls_mem {q : Nat → Nat → Bool} {i t : Nat} {x : Int} : x ∈ clsTo q i t ↔ x = i ∨ ∃ k : Nat, x = k ∧ k < t ∧ i < k ∧ q i k = true := by
  unfold clsTo
  rw [List.mem_cons, List.mem_map]
  simp only [List.mem_filter, List.mem_range, Bool.and_eq_true, decide_eq_true_eq]
  constructor
  · rintro (h | ⟨k, ⟨h1, h2, h3⟩, rfl⟩)
    · exact .inl h
    · exact .inr ⟨k, rfl, h1, h2, h3⟩
  · rintro (h | ⟨k, rfl, h1, h2, h3⟩)
    · exact .inl h
    · exact .inr ⟨k, ⟨h1, h2, h3⟩, rfl⟩
theorem ptn_succ (q : Nat → Nat → Bool) (N i : Nat) : ptnQ q N (i + 1) = ptnQ q N i ++ (if headQ q N i then [clsTo q i N] else []) := by
  unfold ptnQ
  rw [List.range_succ, List.filter_append, List.map_append]
  cases h : headQ q N i <;> simp [List.filter_cons, h]
theorem ptn_len (q : Nat → Nat → Bool) (N i : Nat) : (ptnQ q N i).length ≤ i := by
  unfold ptnQ
  rw [List.length_map]
  have := List.length_filter_le (headQ q N) (List.range i)
  rw [List.length_range] at this
  omega
theorem ptn_mem {q : Nat → Nat → Bool} {N i : Nat} {C : List Int} : C ∈ ptnQ q N i ↔ ∃ j, j < i ∧ headQ q N j = true ∧ C = clsTo q j N := by
  unfold ptnQ
  rw [List.mem_map]
  simp only [List.mem_filter, List.mem_range]
  constructor
  · rintro ⟨j, ⟨h1, h2⟩, rfl⟩; exact ⟨j, h1, h2, rfl⟩
  · rintro ⟨j, h1, h2, rfl⟩; exact ⟨j, ⟨h1, h2⟩, rfl⟩
theorem ptn_row {q : Nat → Nat → Bool} {N i j : Nat} (hj : j < (ptnQ q N i).length) : (row (ptnQ q N i) j).length ≤ N + 1 := by
  obtain ⟨k, _, _, e⟩ := ptn_mem.1 (row_mem hj)
  rw [e]; exact cls_len ..
theorem ptn_flat {q : Nat → Nat → Bool} {N : Nat} (hp : Per q N) {i k : Nat} (hik : i ≤ k) (hk : k < N) : (k : Int) ∈ (ptnQ q N i).flatten ↔ tkQ q i k = true := by
  rw [List.mem_flatten]
  constructor
  · rintro ⟨C, hC, hx⟩
    obtain ⟨j, hj, _, rfl⟩ := ptn_mem.1 hC
    rcases cls_mem.1 hx with e | ⟨t, e, _, h2, h3⟩
    · omega
    · have : t = k := by omega
      subst this
      exact tk_iff.2 ⟨j, hj, h2, h3⟩
  · intro h
    have hex : ∃ j, j < i ∧ j < k ∧ q j k = true := tk_iff.1 h
    have hmin : ∃ j, (j < i ∧ j < k ∧ q j k = true) ∧ ∀ t, t < j → ¬ (t < i ∧ t < k ∧ q t k = true) := by
      obtain ⟨j, hj⟩ := hex
      induction j using Nat.strongRecOn with
      | _ j ih =>
        by_cases hq : ∃ t, t < j ∧ (t < i ∧ t < k ∧ q t k = true)
        · obtain ⟨t, h1, h2⟩ := hq; exact ih t h1 h2
        · exact ⟨j, hj, fun t h1 h2 => hq ⟨t, h1, h2⟩⟩
    obtain ⟨j, ⟨h1, h2, h3⟩, hlow⟩ := hmin
    have hm : (k : Int) ∈ clsTo q j N := cls_mem.2 (.inr ⟨k, rfl, hk, h2, h3⟩)
    refine ⟨clsTo q j N, ptn_mem.2 ⟨j, h1, ?_, rfl⟩, hm⟩
    unfold headQ
    have e1 : tkQ q j j = false := by
      cases e : tkQ q j j
      · rfl
      · obtain ⟨t, h4, _, h5⟩ := tk_iff.1 e
        exact absurd ⟨by omega, by omega, hp.tr _ _ _ (by omega) (by omega) h5 h3⟩ (hlow t h4)
    rw [e1]
    have : 1 < (clsTo q j N).length := by
      have hm2 := hm
      unfold clsTo at hm2 ⊢
      rw [List.mem_cons] at hm2
      rcases hm2 with e | hm2
      · omega
      · rw [List.length_cons]
        have := List.length_pos_of_mem hm2
        omega
    simp [this]
theorem flat_len {q : Nat → Nat → Bool} {N : Nat} (hN : N ≤ 40) (i : Nat) : ((ptnQ q N i).flatten).length ≤ 41 * i := by
  induction i with
  | zero => simp [ptnQ]
  | succ i ih =>
    rw [ptn_succ, List.flatten_append, List.length_append]
    have h2 := cls_len q i N
    have h3 : ((if headQ q N i then [clsTo q i N] else []).flatten).length ≤ 41 := by
      split
      · simp only [List.flatten_cons, List.flatten_nil, List.append_nil]; omega
      · simp
    omega
end Go.Proofs.Ytjbmpnbfiahdhaa
namespace Go.Proofs.Ytjbmpnbfiahdhaa
open Go.RowKit
set_option linter.unusedVariables false
set_option maxRecDepth 100000

def heldF (n : Int) (R : List (List Int)) (m : Int) (d : Int × Int) : Bool := askF n R m d.1 d.2 && holdsF R m d.1 d.2
def satF (n : Int) (R : List (List Int)) (m : Int) (D : List (Int × Int)) : Bool := D.all (heldF n R m) && (isTabF n R && modeF m)

set_option maxHeartbeats 400000 in
theorem c_SatisfiesAll (n : Int) (oa) (cap : Nat) (R : List (List Int)) (m : Int) (ob) (cb : Nat) (D : List (Int × Int)) (w : World) (hR : RowsAt w oa R) (hD : DepsAt w ob D) :
    Ans Try.prog 68 #[.agg #[.int .i64 n, .slice oa R.length cap], .int .i64 m, .slice ob D.length cb] w (.bool (satF n R m D)) := by
  unfold Ans
  have hn : D.length ≤ 1073741824 := hD.len
  have hb := (Below.refl w.heap.size w).alloc (Nat.le_refl _) (.cells #[.int .i64 n, .slice oa R.length cap] 26)
  have a0 := box_at w #[.int .i64 n, .slice oa R.length cap] 26 0 _ rfl
  have a1 := box_at w #[.int .i64 n, .slice oa R.length cap] 26 1 _ rfl
  cases ht : isTabF n R
  · have HM : Hid (satF n R m D = false) := by show satF n R m D = false; unfold satF; rw [ht]; simp
    go_enter Try.func68, Try.ntmps68
    go_wp2_with (first | (go_at_call 67; refine Calls.mono (Ans.eqb (c_IsTable _ _ _ _ _ (hR.keep hb)) ht) ?_; rintro e w1 ⟨rfl, hbn⟩; replace a0 := cell_keep a0 hbn; replace a1 := cell_keep a1 hbn; replace hb := bel_to (w := w) (by first | exact hb | exact hb.alloc hb.size _ | exact (hb.alloc hb.size _).alloc (Nat.le_trans hb.size (by simp)) _ | exact hb.setCell (by simp [hb.size]) _) hbn; clear hbn))
    go_ret
    exact ⟨ret_bool HM.out.symm, hb⟩
  cases hm : modeF m
  · have HM : Hid (satF n R m D = false) := by show satF n R m D = false; unfold satF; rw [ht, hm]; simp
    go_enter Try.func68, Try.ntmps68
    go_wp2_with (first | (go_at_call 67; refine Calls.mono (Ans.eqb (c_IsTable _ _ _ _ _ (hR.keep hb)) ht) ?_; rintro e w1 ⟨rfl, hbn⟩; replace a0 := cell_keep a0 hbn; replace a1 := cell_keep a1 hbn; replace hb := bel_to (w := w) (by first | exact hb | exact hb.alloc hb.size _ | exact (hb.alloc hb.size _).alloc (Nat.le_trans hb.size (by simp)) _ | exact hb.setCell (by simp [hb.size]) _) hbn; clear hbn) | (go_at_call 92; refine Calls.mono (Ans.eqb (c_isMode _ _) hm) ?_; rintro e w1 ⟨rfl, hbn⟩; replace a0 := cell_keep a0 hbn; replace a1 := cell_keep a1 hbn; replace hb := bel_to (w := w) (by first | exact hb | exact hb.alloc hb.size _ | exact (hb.alloc hb.size _).alloc (Nat.le_trans hb.size (by simp)) _ | exact hb.setCell (by simp [hb.size]) _) hbn; clear hbn))
    go_ret
    exact ⟨ret_bool HM.out.symm, hb⟩
  have HM : Hid (satF n R m D = D.all (heldF n R m)) := by show satF n R m D = _; unfold satF; rw [ht, hm]; simp
  go_enter Try.func68, Try.ntmps68
  go_wp2_with (first | (go_at_call 67; refine Calls.mono (Ans.eqb (c_IsTable _ _ _ _ _ (hR.keep hb)) ht) ?_; rintro e w1 ⟨rfl, hbn⟩; replace a0 := cell_keep a0 hbn; replace a1 := cell_keep a1 hbn; replace hb := bel_to (w := w) (by first | exact hb | exact hb.alloc hb.size _ | exact (hb.alloc hb.size _).alloc (Nat.le_trans hb.size (by simp)) _ | exact hb.setCell (by simp [hb.size]) _) hbn; clear hbn) | (go_at_call 92; refine Calls.mono (Ans.eqb (c_isMode _ _) hm) ?_; rintro e w1 ⟨rfl, hbn⟩; replace a0 := cell_keep a0 hbn; replace a1 := cell_keep a1 hbn; replace hb := bel_to (w := w) (by first | exact hb | exact hb.alloc hb.size _ | exact (hb.alloc hb.size _).alloc (Nat.le_trans hb.size (by simp)) _ | exact hb.setCell (by simp [hb.size]) _) hbn; clear hbn))
  go_loopw [19] (fun i wr => ∃ k : Nat, i = .int .i64 k ∧ k ≤ D.length ∧ (D.take k).all (heldF n R m) = true ∧ wr.cell? ⟨w.heap.size, 0, none⟩ = some (.int .i64 n) ∧ wr.cell? ⟨w.heap.size, 1, none⟩ = some (.slice oa R.length cap) ∧ Below w.heap.size w wr) (fun i _ => D.length - (intOf i).toNat)
  case atStart => exact ⟨0, rfl, Nat.zero_le _, by simp, a0, a1, hb⟩
  case round =>
    clear a0 a1 hb
    obtain ⟨k, rfl, hk, hall, a0, a1, hb⟩ := hrel
    have HA : Hid ((D.take k).all (heldF n R m) = true) := hall
    clear hall
    by_cases hlt : k < D.length
    · obtain ⟨b, off, rfl, hbs, hc⟩ := hD.at_ (by omega)
      have hc1 := cell_keep (hc k hlt).1 hb
      have hc2 := cell_keep (hc k hlt).2 hb
      have HT : Hid ((D.take (k + 1)).all (heldF n R m) = ((D.take k).all (heldF n R m) && heldF n R m (nl D k, nr D k))) := dall_take_succ _ D k hlt
      have HF : Hid (heldF n R m (nl D k, nr D k) = false → D.all (heldF n R m) = false) := dall_false _ D k hlt
      clear hc
      generalize nl D k = l at *
      generalize nr D k = r at *
      replace a0 := cell_keep a0 ((Below.refl _ _).alloc (Nat.le_refl _) (.cells #[.int .i64 l, .int .i64 r] 55))
      replace a1 := cell_keep a1 ((Below.refl _ _).alloc (Nat.le_refl _) (.cells #[.int .i64 l, .int .i64 r] 55))
      cases hh : (askF n R m l r && holdsF R m l r)
      · go_wp2_with (first | (go_at_call 52; refine Calls.mono (Ans.eqb (c_HoldsDep _ _ _ _ _ _ _ _ (hR.keep (hb.alloc hb.size _))) hh) ?_; rintro e w1 ⟨rfl, hbn⟩; replace a0 := cell_keep a0 hbn; replace a1 := cell_keep a1 hbn; replace hb := bel_to (w := w) (by first | exact hb | exact hb.alloc hb.size _ | exact (hb.alloc hb.size _).alloc (Nat.le_trans hb.size (by simp)) _ | exact hb.setCell (by simp [hb.size]) _) hbn; clear hbn))
        go_ret
        exact ⟨ret_bool (by rw [HM.out, HF.out hh]), hb⟩
      · go_wp2_with (first | (go_at_call 52; refine Calls.mono (Ans.eqb (c_HoldsDep _ _ _ _ _ _ _ _ (hR.keep (hb.alloc hb.size _))) hh) ?_; rintro e w1 ⟨rfl, hbn⟩; replace a0 := cell_keep a0 hbn; replace a1 := cell_keep a1 hbn; replace hb := bel_to (w := w) (by first | exact hb | exact hb.alloc hb.size _ | exact (hb.alloc hb.size _).alloc (Nat.le_trans hb.size (by simp)) _ | exact hb.setCell (by simp [hb.size]) _) hbn; clear hbn))
        go_roundw
        case rel => exact ⟨k + 1, by go_num, by omega, by rw [HT.out, HA.out]; exact hh, a0, a1, hb⟩
        case measure => simp [intOf]; omega
    · have hkk : k = D.length := by omega
      have HS : Hid (D.all (heldF n R m) = true) := by have := HA.out; rw [hkk, List.take_length] at this; exact this
      clear hkk
      go_wp2
      go_ret
      exact ⟨ret_bool (by rw [HM.out, HS.out]), hb⟩
set_option maxHeartbeats 400000 in
theorem c_specSatisfiesAll (n : Int) (oa) (cap : Nat) (R : List (List Int)) (m : Int) (ob) (cb : Nat) (D : List (Int × Int)) (w : World) (hR : RowsAt w oa R) (hD : DepsAt w ob D) :
    Ans Try.prog 39 #[.agg #[.int .i64 n, .slice oa R.length cap], .int .i64 m, .slice ob D.length cb] w (.bool (satF n R m D)) := by
  unfold Ans
  have hn : D.length ≤ 1073741824 := hD.len
  have hb := (Below.refl w.heap.size w).alloc (Nat.le_refl _) (.cells #[.int .i64 n, .slice oa R.length cap] 26)
  have a0 := box_at w #[.int .i64 n, .slice oa R.length cap] 26 0 _ rfl
  have a1 := box_at w #[.int .i64 n, .slice oa R.length cap] 26 1 _ rfl
  go_enter Try.func39, Try.ntmps39
  go_wp2
  go_loopw [7] (fun i wr => ∃ k : Nat, i = .int .i64 k ∧ k ≤ D.length ∧ (D.take k).all (heldF n R m) = true ∧ wr.cell? ⟨w.heap.size, 0, none⟩ = some (.int .i64 n) ∧ wr.cell? ⟨w.heap.size, 1, none⟩ = some (.slice oa R.length cap) ∧ Below w.heap.size w wr) (fun i _ => D.length - (intOf i).toNat)
  case atStart => exact ⟨0, rfl, Nat.zero_le _, by simp, a0, a1, hb⟩
  case round =>
    clear a0 a1 hb
    obtain ⟨k, rfl, hk, hall, a0, a1, hb⟩ := hrel
    have HA : Hid ((D.take k).all (heldF n R m) = true) := hall
    clear hall
    by_cases hlt : k < D.length
    · obtain ⟨b, off, rfl, hbs, hc⟩ := hD.at_ (by omega)
      have hc1 := cell_keep (hc k hlt).1 hb
      have hc2 := cell_keep (hc k hlt).2 hb
      have hx := fun (x : After wr) => (hR.keep hb).keep x.bel
      have HT : Hid ((D.take (k + 1)).all (heldF n R m) = ((D.take k).all (heldF n R m) && heldF n R m (nl D k, nr D k))) := dall_take_succ _ D k hlt
      have HF : Hid (heldF n R m (nl D k, nr D k) = false → D.all (heldF n R m) = false) := dall_false _ D k hlt
      clear hc
      generalize nl D k = l at *
      generalize nr D k = r at *
      cases hh : (askF n R m l r && holdsF R m l r)
      · go_wp2_with fail
        (refine wp_region_after (by kernel_rfl) (by kernel_rfl) ?_; have q_a0 := fun (x : After _) => cell_keep a0 x.bel; have q_a1 := fun (x : After _) => cell_keep a1 x.bel; have q_hc1 := fun (x : After _) => cell_keep hc1 x.bel; have q_hc2 := fun (x : After _) => cell_keep hc2 x.bel; (repeat (go_big_quiet_step ((first | (go_at_call 40; exact Ans.after (Ans.eqb (b' := false) (c_specHoldsDep _ _ _ _ _ _ _ _ (hx _)) hh)))))); clear q_a0; clear q_a1; clear q_hc1; clear q_hc2; refine wpQuiet_nil ?_; rintro _ ⟨⟨w1, hbn⟩, rfl⟩; (try simp only [After.w]); replace a0 := cell_keep a0 hbn; replace a1 := cell_keep a1 hbn; replace hc1 := cell_keep hc1 hbn; replace hc2 := cell_keep hc2 hbn; replace hb := bel_to (w := w) (by first | exact hb | exact hb.alloc hb.size _ | exact (hb.alloc hb.size _).alloc (Nat.le_trans hb.size (by simp)) _ | exact hb.setCell (by simp [hb.size]) _) hbn; clear hbn)
        go_wp2
        go_ret
        exact ⟨ret_bool (by unfold satF; rw [HF.out hh]; rfl), hb⟩
      · go_wp2_with fail
        (refine wp_region_after (by kernel_rfl) (by kernel_rfl) ?_; have q_a0 := fun (x : After _) => cell_keep a0 x.bel; have q_a1 := fun (x : After _) => cell_keep a1 x.bel; have q_hc1 := fun (x : After _) => cell_keep hc1 x.bel; have q_hc2 := fun (x : After _) => cell_keep hc2 x.bel; (repeat (go_big_quiet_step ((first | (go_at_call 40; exact Ans.after (Ans.eqb (b' := true) (c_specHoldsDep _ _ _ _ _ _ _ _ (hx _)) hh)))))); clear q_a0; clear q_a1; clear q_hc1; clear q_hc2; refine wpQuiet_nil ?_; rintro _ ⟨⟨w1, hbn⟩, rfl⟩; (try simp only [After.w]); replace a0 := cell_keep a0 hbn; replace a1 := cell_keep a1 hbn; replace hc1 := cell_keep hc1 hbn; replace hc2 := cell_keep hc2 hbn; replace hb := bel_to (w := w) (by first | exact hb | exact hb.alloc hb.size _ | exact (hb.alloc hb.size _).alloc (Nat.le_trans hb.size (by simp)) _ | exact hb.setCell (by simp [hb.size]) _) hbn; clear hbn)
        go_wp2
        go_roundw
        case rel => exact ⟨k + 1, by go_num, by omega, by rw [HT.out, HA.out]; exact hh, a0, a1, hb⟩
        case measure => simp [intOf]; omega
    · have hkk : k = D.length := by omega
      have HS : Hid (D.all (heldF n R m) = true) := by have := HA.out; rw [hkk, List.take_length] at this; exact this
      clear hkk
      go_wp2_with (first | (go_at_call 89; refine Calls.mono (c_l4Fine _ _ _ _ _ _ (hR.keep hb)) ?_; rintro e w1 ⟨rfl, hbn⟩; replace a0 := cell_keep a0 hbn; replace a1 := cell_keep a1 hbn; replace hb := bel_to (w := w) (by first | exact hb | exact hb.alloc hb.size _ | exact (hb.alloc hb.size _).alloc (Nat.le_trans hb.size (by simp)) _ | exact hb.setCell (by simp [hb.size]) _) hbn; clear hbn))
      go_ret
      exact ⟨ret_bool (by unfold satF; rw [HS.out]; rfl), hb⟩
end Go.Proofs.Ytjbmpnbfiahdhaa
