/- Contracts and lemmas for FnExactCounterTable, part 4 of 4. -/
import Derived.Test.YtkanbnbofoabeaaQCounterTable1
import Derived.Test.YtkanbnbofoabeaaQCounterTable2
import Derived.Test.YtkanbnbofoabeaaQCounterTable3
import Derived.ProofKit
import Derived.OpenShut
import Derived.Lib.SmallJoins
import Derived.Deep.SlicePairs
import Derived.Deep.Matrix
import Derived.Deep.RegionHeld3
import Derived.Deep.AppendLies
import Derived.Deep.RegionLaw
import Derived.Deep.CutRange
namespace Go.Proofs.Ytkanbnbofoabeaa
open Go.ChangeShapes Go.WideShapes Go.ChangeAt Go.RowKit
set_option linter.unusedVariables false
set_option maxRecDepth 100000

theorem open_ints {H : Type} {enc : TypeId × Value → H} {W : World} {base : Nat} {held : Bool} {v : Value} {d : DataW H} {ps : List MemPlace} (hok : Value.okWide Try.prog W .any base 69 v)
    (h : DataW.Trod enc Try.prog W 0 (fun _ => true) held 69 v d ps) : InInts W v := by
  obtain ⟨a0, len0, cap0, rfl⟩ := okWide_slice Try.underlying69 hok
  obtain ⟨fuel, hf⟩ := h
  rcases Go.ChangeShapes.open_ints Try.underlying69 Try.underlying3 (by kernel_rfl) hf with ⟨hcs, _⟩ | ⟨x, l, c, zs, hcs, _, hl, hm, hz, _, hcell, hwz⟩
  · simp [Value.cells] at hcs
    obtain ⟨rfl, rfl, rfl⟩ := hcs
    exact ⟨_, _, _, [], rfl, .inl ⟨rfl, rfl, rfl, rfl⟩⟩
  · simp [Value.cells] at hcs
    obtain ⟨rfl, rfl, rfl⟩ := hcs
    exact ⟨_, _, _, zs, rfl, .inr ⟨_, rfl, hl, hm, by simpa using hz, hcell, hwz⟩⟩
end Go.Proofs.Ytkanbnbofoabeaa
namespace Go.Proofs.Ytkanbnbofoabeaa
open Go.ChangeShapes Go.WideShapes Go.ChangeAt Go.RowKit Go.Joins
set_option linter.unusedVariables false
set_option maxRecDepth 100000

theorem add_at (b off j : Nat) : (⟨b, off, none⟩ : Addr).add j = ⟨b, off + j, none⟩ := by unfold Addr.add; split <;> simp_all

theorem open_deps {H : Type} {enc : TypeId × Value → H} {W : World} {base : Nat} {held : Bool} {v : Value} {d : DataW H} {ps : List MemPlace} (hok : Value.okWide Try.prog W .any base 22 v)
    (h : DataW.Trod enc Try.prog W 0 (fun _ => true) held 22 v d ps) : InDeps W v := by
  obtain ⟨a0, len0, cap0, rfl⟩ := okWide_slice Try.underlying22 hok
  obtain ⟨fuel, hf⟩ := h
  rcases Go.Deep.open_slice_pairs Try.underlying22 Try.underlying24 (by kernel_rfl) rfl rfl (by kernel_rfl) (by kernel_rfl) hf with ⟨hcs, _⟩ | ⟨x, l, c, m, n, V0, V1, D0, D1, P0, P1, hcs, _, hl, hm, hmm, _, hcell⟩
  · simp [Value.cells] at hcs
    obtain ⟨rfl, rfl, rfl⟩ := hcs
    exact ⟨_, _, _, rfl, Nat.zero_le _, fun _ => ⟨[], rfl, by simp, fun h => absurd h (by simp)⟩⟩
  · simp [Value.cells] at hcs
    obtain ⟨rfl, rfl, rfl⟩ := hcs
    simp only [if_true] at hmm
    subst hmm
    refine ⟨_, _, _, rfl, Nat.le_trans hl hm, fun hr => ?_⟩
    have each : ∀ i, i < len0 → ∃ q : Int × Int, V0 i = .int .i64 q.1 ∧ V1 i = .int .i64 q.2 := by
      intro i hi
      obtain ⟨_, _, t0, t1⟩ := hcell i (by omega)
      obtain ⟨z0, e0, _⟩ := DataW.trod_int Try.underlying3 t0
      obtain ⟨z1, e1, _⟩ := DataW.trod_int Try.underlying3 t1
      simp at e0 e1
      exact ⟨(z0, z1), e0, e1⟩
    obtain ⟨q, hq⟩ := Go.Deep.choose_lt each
    refine ⟨(List.range len0).map q, by simp, by simpa using hr, fun h0 => ?_⟩
    simp only [List.length_map, List.length_range] at h0
    obtain ⟨b, off, spot⟩ := x
    have hc := (hcell 0 (by omega)).1
    have hspot : spot = none := by simpa [Addr.add] using World.cell?_spot hc
    subst hspot
    refine ⟨b, off, rfl, World.block_lt_of_cell? W ⟨b, off, none⟩ (by simpa [Addr.add] using hc), fun k hk => ?_⟩
    simp only [List.length_map, List.length_range] at hk
    obtain ⟨c0, c1, _⟩ := hcell k (by omega)
    rw [add_at] at c0 c1
    obtain ⟨e0, e1⟩ := hq k hk
    rw [e0] at c0
    rw [e1] at c1
    rw [Nat.add_assoc, c0, c1]
    have e : ((List.range len0).map q).getD k (0, 0) = q k := by simp [List.getD, hk]
    unfold nl nr
    rw [e]; exact ⟨rfl, rfl⟩

theorem open_dep {H : Type} {enc : TypeId × Value → H} {W : World} {base : Nat} {held : Bool} {v : Value} {d : DataW H} {ps : List MemPlace} (hok : Value.okWide Try.prog W .any base 24 v)
    (h : DataW.Trod enc Try.prog W 0 (fun _ => true) held 24 v d ps) : ∃ l r : Int, v = .agg #[.int .i64 l, .int .i64 r] ∧ (Lit.int .i64 l).wf = true ∧ (Lit.int .i64 r).wf = true := by
  obtain ⟨c0, c1, y0, y1, m, rfl, rfl, rfl, hy0, hy1⟩ := open_agg2 Try.underlying24 (by kernel_rfl) (by kernel_rfl) hok h
  obtain ⟨z0, e0, _, w0⟩ := DataW.trod_int Try.underlying3 hy0
  obtain ⟨z1, e1, _, w1⟩ := DataW.trod_int Try.underlying3 hy1
  simp at e0 e1
  subst e0 e1
  exact ⟨_, _, rfl, w0, w1⟩
end Go.Proofs.Ytkanbnbofoabeaa
namespace Go.Proofs.Ytkanbnbofoabeaa
open Go.ChangeShapes Go.WideShapes Go.ChangeAt Go.RowKit Go.Joins
set_option linter.unusedVariables false
set_option maxRecDepth 100000

def InTab (w : World) (v : Value) : Prop := ∃ (n : Int) (oa : Option Addr) (l c : Nat) (Ln : Nat → Nat), v = .agg #[.int .i64 n, .slice oa l c] ∧ RowsIn w oa l Ln
theorem open_table {H : Type} {enc : TypeId × Value → H} {W : World} {base : Nat} {held : Bool} {v : Value} {d : DataW H} {ps : List MemPlace} (hok : Value.okWide Try.prog W .any base 40 v)
    (h : DataW.Trod enc Try.prog W 0 (fun _ => true) held 40 v d ps) : InTab W v := by
  obtain ⟨c0, c1, y0, y1, m, rfl, rfl, rfl, hy0, hy1⟩ := open_agg2 Try.underlying40 (by kernel_rfl) (by kernel_rfl) hok h
  obtain ⟨z0, e0, _, w0⟩ := DataW.trod_int Try.underlying3 hy0
  simp at e0
  subst e0
  rcases Go.Deep.open_int_rows Try.underlying26 Try.underlying69 Try.underlying3 (by kernel_rfl) (by kernel_rfl) hy1 with ⟨hcs, _⟩ | ⟨a, len, cap, A, L, C, Z, hcs, _, hl, hm, _, hr⟩
  · simp at hcs
    subst hcs
    exact ⟨_, _, _, _, fun _ => 0, rfl, Nat.zero_le _, fun h => absurd h (by simp)⟩
  · simp at hcs
    subst hcs
    refine ⟨_, _, _, _, L, rfl, Nat.le_trans hl hm, fun h0 => ?_⟩
    obtain ⟨b, off, spot⟩ := a
    have hc := (hr 0 (by omega)).1
    have hspot : spot = none := by simpa [Addr.add] using World.cell?_spot hc
    subst hspot
    refine ⟨b, off, rfl, World.block_lt_of_cell? W ⟨b, off, none⟩ (by simpa [Addr.add] using hc), fun r hrl => ?_⟩
    obtain ⟨h1, h2, h3, h4, h5, h6, h7⟩ := hr r (by omega)
    rw [add_at] at h1
    refine ⟨Nat.le_trans h2 h3, A r, C r, h1, fun hroom => ?_⟩
    refine IsRow.ints (cap := C r) (zs := Z r) ?_ hroom
    cases hA : A r with
    | none =>
      have hz : C r = 0 := h6 hA
      refine .inl ⟨rfl, by omega, hz, List.eq_nil_of_length_eq_zero (by omega)⟩
    | some a' =>
      obtain ⟨_, hcell⟩ := h7 a' hA
      exact .inr ⟨a', rfl, h2, h3, h4, fun i hi => hcell i (by omega), h5⟩
theorem RowsIn.keep {w w' : World} {oa : Option Addr} {l : Nat} {Ln : Nat → Nat} (h : RowsIn w oa l Ln) (hk : Below w.heap.size w w') : RowsIn w' oa l Ln :=
  ⟨h.len, fun h0 => by
    obtain ⟨b, off, e, hlt, hr⟩ := h.rows h0
    exact ⟨b, off, e, Nat.lt_of_lt_of_le hlt hk.size, fun r hrl => by
      obtain ⟨m, o, c, h1, h2⟩ := hr r hrl
      exact ⟨m, o, c, cell_keep h1 hk, fun hq => by
        obtain ⟨L, e1, e2⟩ := h2 hq
        exact ⟨L, e1, e2.keep hk⟩⟩⟩⟩
end Go.Proofs.Ytkanbnbofoabeaa
namespace Go.Proofs.Ytkanbnbofoabeaa
open Go.ChangeShapes Go.WideShapes Go.ChangeAt Go.RowKit Go.Joins
set_option linter.unusedVariables false
set_option maxRecDepth 100000

theorem deps_of_trod {H : Type} {enc : TypeId × Value → H} {W : World} {held : Bool} {fuel : Nat} {v : Value} {x : DataW H × List MemPlace} (hf : DataW.trod enc Try.prog W 0 (fun _ => true) held fuel 22 [v] = some x) : InDeps W v := by
  rcases Go.Deep.open_slice_pairs Try.underlying22 Try.underlying24 (by kernel_rfl) rfl rfl (by kernel_rfl) (by kernel_rfl) hf with ⟨hcs, _⟩ | ⟨x, l, c, m, n, V0, V1, D0, D1, P0, P1, hcs, _, hl, hm, hmm, _, hcell⟩
  · simp at hcs
    subst hcs
    exact ⟨_, _, _, rfl, Nat.zero_le _, fun _ => ⟨[], rfl, by simp, fun h => absurd h (by simp)⟩⟩
  · simp at hcs
    subst hcs
    simp only [if_true] at hmm
    subst hmm
    refine ⟨_, _, _, rfl, Nat.le_trans hl hm, fun hr => ?_⟩
    have each : ∀ i, i < l → ∃ q : Int × Int, V0 i = .int .i64 q.1 ∧ V1 i = .int .i64 q.2 := by
      intro i hi
      obtain ⟨_, _, t0, t1⟩ := hcell i (by omega)
      obtain ⟨z0, e0, _⟩ := DataW.trod_int Try.underlying3 t0
      obtain ⟨z1, e1, _⟩ := DataW.trod_int Try.underlying3 t1
      simp at e0 e1
      exact ⟨(z0, z1), e0, e1⟩
    obtain ⟨q, hq⟩ := Go.Deep.choose_lt each
    refine ⟨(List.range l).map q, by simp, by simpa using hr, fun h0 => ?_⟩
    simp only [List.length_map, List.length_range] at h0
    obtain ⟨b, off, spot⟩ := x
    have hc := (hcell 0 (by omega)).1
    have hspot : spot = none := by simpa [Addr.add] using World.cell?_spot hc
    subst hspot
    refine ⟨b, off, rfl, World.block_lt_of_cell? W ⟨b, off, none⟩ (by simpa [Addr.add] using hc), fun k hk => ?_⟩
    simp only [List.length_map, List.length_range] at hk
    obtain ⟨c0, c1, _⟩ := hcell k (by omega)
    rw [add_at] at c0 c1
    obtain ⟨e0, e1⟩ := hq k hk
    rw [e0] at c0
    rw [e1] at c1
    rw [Nat.add_assoc, c0, c1]
    have e : ((List.range l).map q).getD k (0, 0) = q k := by simp [List.getD, hk]
    unfold nl nr
    rw [e]; exact ⟨rfl, rfl⟩
theorem rows_of_trod {H : Type} {enc : TypeId × Value → H} {W : World} {held : Bool} {fuel : Nat} {v : Value} {x : DataW H × List MemPlace} (hy1 : DataW.trod enc Try.prog W 0 (fun _ => true) held fuel 26 [v] = some x) : ∃ (oa : Option Addr) (l c : Nat) (Ln : Nat → Nat), v = .slice oa l c ∧ RowsIn W oa l Ln := by
  rcases Go.Deep.open_int_rows Try.underlying26 Try.underlying69 Try.underlying3 (by kernel_rfl) (by kernel_rfl) hy1 with ⟨hcs, _⟩ | ⟨a, len, cap, A, L, C, Z, hcs, _, hl, hm, _, hr⟩
  · simp at hcs
    subst hcs
    exact ⟨_, _, _, fun _ => 0, rfl, Nat.zero_le _, fun h => absurd h (by simp)⟩
  · simp at hcs
    subst hcs
    refine ⟨_, _, _, L, rfl, Nat.le_trans hl hm, fun h0 => ?_⟩
    obtain ⟨b, off, spot⟩ := a
    have hc := (hr 0 (by omega)).1
    have hspot : spot = none := by simpa [Addr.add] using World.cell?_spot hc
    subst hspot
    refine ⟨b, off, rfl, World.block_lt_of_cell? W ⟨b, off, none⟩ (by simpa [Addr.add] using hc), fun r hrl => ?_⟩
    obtain ⟨h1, h2, h3, h4, h5, h6, h7⟩ := hr r (by omega)
    rw [add_at] at h1
    refine ⟨Nat.le_trans h2 h3, A r, C r, h1, fun hroom => ?_⟩
    refine IsRow.ints (cap := C r) (zs := Z r) ?_ hroom
    cases hA : A r with
    | none =>
      have hz : C r = 0 := h6 hA
      refine .inl ⟨rfl, by omega, hz, List.eq_nil_of_length_eq_zero (by omega)⟩
    | some a' =>
      obtain ⟨_, hcell⟩ := h7 a' hA
      exact .inr ⟨a', rfl, h2, h3, h4, fun i hi => hcell i (by omega), h5⟩
def InSr (w : World) (v : Value) : Prop := ∃ (n m a t : Int) (oa : Option Addr) (l c : Nat) (Ln : Nat → Nat) (vD : Value), v = .agg #[.int .i64 n, .slice oa l c, .int .i64 m, .int .i64 a, vD, .int .i64 t] ∧ RowsIn w oa l Ln ∧ InDeps w vD
  ∧ (Lit.int .i64 m).wf = true ∧ (Lit.int .i64 a).wf = true ∧ (Lit.int .i64 t).wf = true
theorem open_search {H : Type} {enc : TypeId × Value → H} {W : World} {base : Nat} {held : Bool} {v : Value} {d : DataW H} {ps : List MemPlace} (hok : Value.okWide Try.prog W .any base 46 v)
    (h : DataW.Trod enc Try.prog W 0 (fun _ => true) held 46 v d ps) : InSr W v := by
  obtain ⟨cs, rfl, hsz⟩ := okWide_struct Try.underlying46 hok
  obtain ⟨l⟩ := cs
  have hC : Try.prog.cellsOf 46 = 6 := by kernel_rfl
  match l, hsz.trans hC with
  | [v0, v1, v2, v3, v4, v5], _ =>
    obtain ⟨fuel, hf⟩ := h
    obtain ⟨xs, n, _, hx, _, hlen, hg⟩ := DataW.trod_struct Try.underlying46 hf
    match xs, hlen with
    | [y0, y1, y2, y3, y4], _ =>
      have g0 := hg 0 _ rfl
      have g1 := hg 1 _ rfl
      have g2 := hg 2 _ rfl
      have g3 := hg 3 _ rfl
      have g4 := hg 4 _ rfl
      have ci : Try.prog.cellsOf 3 = 1 := by kernel_rfl
      have ct : Try.prog.cellsOf 40 = 2 := by kernel_rfl
      have cd : Try.prog.cellsOf 22 = 1 := by kernel_rfl
      simp [Value.cells, ci, ct, cd] at g0 g1 g2 g3 g4
      obtain ⟨zs, k, _, _, _, hzl, hz⟩ := DataW.trod_struct Try.underlying40 g0
      match zs, hzl with
      | [z0, z1], _ =>
        have q0 := hz 0 _ rfl
        have q1 := hz 1 _ rfl
        have cr : Try.prog.cellsOf 26 = 1 := by kernel_rfl
        simp [ci, cr] at q0 q1
        obtain ⟨i0, e0, _, w0⟩ := DataW.trod_int Try.underlying3 q0
        obtain ⟨i1, e1, _, w1⟩ := DataW.trod_int Try.underlying3 g1
        obtain ⟨i2, e2, _, w2⟩ := DataW.trod_int Try.underlying3 g2
        obtain ⟨i4, e4, _, w4⟩ := DataW.trod_int Try.underlying3 g4
        simp at e0 e1 e2 e4
        subst e0 e1 e2 e4
        obtain ⟨oa, lr, cr, Ln, rfl, hR⟩ := rows_of_trod q1
        exact ⟨_, _, _, _, _, _, _, _, _, rfl, hR, deps_of_trod g3, w1, w2, w4⟩
end Go.Proofs.Ytkanbnbofoabeaa
namespace Go.Proofs.Ytkanbnbofoabeaa
open Go.RowKit
set_option linter.unusedVariables false
set_option maxRecDepth 100000

theorem c_szIntSSg (oa) (n cap : Nat) (Ln : Nat → Nat) (left : Int) (hl0 : 0 ≤ left) (hl1 : left ≤ 1048576) (w : World) (h : RowsIn w oa n Ln) :
    Calls Try.prog 74 #[.slice oa n cap, .int .i64 left] w fun e w' => (∃ x : Int, e = .returned (.int .i64 x) ∧ (x = -1 ∨ (0 ≤ x ∧ x ≤ left ∧ (n : Int) + sumN Ln n + x = left))) ∧ Below w.heap.size w w' := by
  have hn := h.len
  unfold maxLen at hn
  by_cases hbig : left < n
  · go_enter Try.func74, Try.ntmps74
    go_wp2
    go_ret
    exact ⟨⟨_, rfl, .inl rfl⟩, Below.refl _ _⟩
  go_enter Try.func74, Try.ntmps74
  go_wp2
  go_loopw [1, 5] (fun l i wr => ∃ (x : Int) (k : Nat), l = .int .i64 x ∧ i = .int .i64 k ∧ k ≤ n ∧ 0 ≤ x ∧ x ≤ left ∧ x + (n : Int) + sumN Ln k = left ∧ Below w.heap.size w wr) (fun _ i _ => n - (intOf i).toNat)
  case atStart => exact ⟨_, 0, rfl, rfl, Nat.zero_le _, by omega, by omega, by simp [sumN], Below.refl _ _⟩
  case round =>
    obtain ⟨x, k, rfl, rfl, hk, hx0, hx1, hall, hb⟩ := hrel
    have HA : Hid (x + (n : Int) + sumN Ln k = left) := hall
    have HS : Hid (sumN Ln (k + 1) = sumN Ln k + Ln k) := sumN_succ Ln k
    clear hall
    have hx2 : x ≤ 1048576 := by omega
    by_cases hlt : k < n
    · obtain ⟨b, off, rfl, hbs, hc⟩ := h.rows (by omega)
      obtain ⟨hm, o, c, hc0, _⟩ := hc k hlt
      have hc1 := cell_keep hc0 hb
      clear hc hc0
      by_cases hle : (Ln k : Int) ≤ x
      · have e : (if (Ln k : Int) ≤ x then x - Ln k else -1) = x - Ln k := if_pos hle
        go_wp2_with fail
        refine (show Ans _ _ _ _ (.int .i64 (x - Ln k)) from e ▸ c_szIntS _ _ _ _ ⟨hx0, hx2⟩ hm _).mono ?_
        rintro en w1 ⟨rfl, hbn⟩
        replace hb := bel_to hb hbn
        clear hbn e
        go_wp2
        go_roundw
        case rel => exact ⟨x - Ln k, k + 1, rfl, by go_num, by omega, by omega, by omega, (by have h1 := HA.out; have h2 := HS.out; omega), hb⟩
        case measure => simp [intOf]; omega
      · have e : (if (Ln k : Int) ≤ x then x - Ln k else -1) = -1 := if_neg hle
        go_wp2_with fail
        refine (show Ans _ _ _ _ (.int .i64 (-1)) from e ▸ c_szIntS _ _ _ _ ⟨hx0, hx2⟩ hm _).mono ?_
        rintro en w1 ⟨rfl, hbn⟩
        replace hb := bel_to hb hbn
        clear hbn e
        go_wp2
        go_ret
        exact ⟨⟨_, rfl, .inl rfl⟩, hb⟩
    · have hkk : k = n := by omega
      have HK : Hid (k = n) := hkk
      clear hkk
      go_wp2
      go_ret
      exact ⟨⟨_, rfl, .inr ⟨hx0, by omega, (by have h1 := HA.out; have h2 := HK.out; rw [h2] at h1; omega)⟩⟩, hb⟩
theorem c_szTableg (n : Int) (oa) (l cap : Nat) (Ln : Nat → Nat) (left : Int) (hl0 : 0 ≤ left) (hl1 : left ≤ 1048576) (w : World) (h : RowsIn w oa l Ln) :
    Calls Try.prog 26 #[.agg #[.int .i64 n, .slice oa l cap], .int .i64 left] w fun e w' => (∃ x : Int, e = .returned (.int .i64 x) ∧ (x = -1 ∨ (0 ≤ x ∧ x ≤ left ∧ (l : Int) + sumN Ln l + x = left))) ∧ Below w.heap.size w w' := by
  have hb := (Below.refl w.heap.size w).alloc (Nat.le_refl _) (.cells #[.int .i64 n, .slice oa l cap] 40)
  go_enter Try.func26, Try.ntmps26
  go_wp2_with fail
  refine (c_szIntSSg _ _ _ _ left hl0 hl1 _ (h.keep hb)).mono ?_
  rintro e w1 ⟨⟨x, rfl, hx⟩, hbn⟩
  replace hb := bel_to hb hbn
  clear hbn
  rcases hx with rfl | ⟨h0, h1, h3⟩
  · go_wp2
    go_ret
    exact ⟨⟨_, rfl, .inl rfl⟩, hb⟩
  · have H3 : Hid ((l : Int) + sumN Ln l + x = left) := h3
    clear h3
    go_wp2
    go_ret
    exact ⟨⟨_, rfl, .inr ⟨h0, h1, H3.out⟩⟩, hb⟩
theorem c_szSearch (n m a t : Int) (oa) (l cap : Nat) (Ln : Nat → Nat) (od) (ld cd : Nat) (left : Int) (hl0 : 0 ≤ left) (hl1 : left ≤ 1048576) (w : World) (h : RowsIn w oa l Ln) (hmD : ld ≤ maxLen) :
    Calls Try.prog 30 #[.agg #[.int .i64 n, .slice oa l cap, .int .i64 m, .int .i64 a, .slice od ld cd, .int .i64 t], .int .i64 left] w fun e w' => (∃ x : Int, e = .returned (.int .i64 x) ∧ (x = -1 ∨ (0 ≤ x ∧ x ≤ left ∧ (l : Int) + sumN Ln l ≤ left ∧ (ld : Int) ≤ left))) ∧ Below w.heap.size w w' := by
  have hb := (Below.refl w.heap.size w).alloc (Nat.le_refl _) (.cells #[.int .i64 n, .slice oa l cap, .int .i64 m, .int .i64 a, .slice od ld cd, .int .i64 t] 46)
  have b4 := box_at w #[.int .i64 n, .slice oa l cap, .int .i64 m, .int .i64 a, .slice od ld cd, .int .i64 t] 46 4 _ rfl
  go_enter Try.func30, Try.ntmps30
  go_wp2_with fail
  refine (c_szTableg n _ _ _ _ left hl0 hl1 _ (h.keep hb)).mono ?_
  rintro e w1 ⟨⟨x, rfl, hx⟩, hbn⟩
  replace b4 := cell_keep b4 hbn
  replace hb := bel_to hb hbn
  clear hbn
  rcases hx with rfl | ⟨h0, h1, h3⟩
  · go_wp2
    go_ret
    exact ⟨⟨_, rfl, .inl rfl⟩, hb⟩
  · have H3 : Hid ((l : Int) + sumN Ln l + x = left) := h3
    clear h3
    have hx1 : x ≤ 1048576 := by omega
    by_cases big : x < (ld : Int)
    · go_wp2_with fail
      refine Calls.mono (c_szDepS_no _ _ _ _ ⟨h0, hx1⟩ big hmD _) ?_
      rintro e w2 ⟨rfl, hbn⟩
      replace hb := bel_to hb hbn
      clear hbn
      go_wp2
      go_ret
      exact ⟨⟨_, rfl, .inl rfl⟩, hb⟩
    · have hy0 : 0 ≤ x - (ld : Int) := by omega
      go_wp2_with fail
      refine Calls.mono (c_szDepS_ok _ _ _ _ hx1 (by omega) _) ?_
      rintro e w2 ⟨rfl, hbn⟩
      replace hb := bel_to hb hbn
      clear hbn
      go_wp2
      go_ret
      exact ⟨⟨_, rfl, .inr ⟨by omega, by omega, by have := H3.out; omega, by have := H3.out; omega⟩⟩, hb⟩
theorem c_eqSearch (A B : Sr) (oa ob fa fb) (ca cb fca fcb : Nat) (w : World) (hA : RowsAt w oa A.R) (hB : RowsAt w ob B.R) (hC : DepsAt w fa A.F) (hD : DepsAt w fb B.F) (e : A = B) :
    Ans Try.prog 34 #[.agg #[.int .i64 A.n, .slice oa A.R.length ca, .int .i64 A.m, .int .i64 A.a, .slice fa A.F.length fca, .int .i64 A.t], .agg #[.int .i64 B.n, .slice ob B.R.length cb, .int .i64 B.m, .int .i64 B.a, .slice fb B.F.length fcb, .int .i64 B.t]] w (.bool true) := by
  subst e
  unfold Ans
  have hb := bel2 w (.cells #[.int .i64 A.n, .slice oa A.R.length ca, .int .i64 A.m, .int .i64 A.a, .slice fa A.F.length fca, .int .i64 A.t] 50) (.cells #[.int .i64 A.n, .slice ob A.R.length cb, .int .i64 A.m, .int .i64 A.a, .slice fb A.F.length fcb, .int .i64 A.t] 50)
  have x2 := two_a w #[.int .i64 A.n, .slice oa A.R.length ca, .int .i64 A.m, .int .i64 A.a, .slice fa A.F.length fca, .int .i64 A.t] 50 #[.int .i64 A.n, .slice ob A.R.length cb, .int .i64 A.m, .int .i64 A.a, .slice fb A.F.length fcb, .int .i64 A.t] 50 2 _ rfl
  have x3 := two_a w #[.int .i64 A.n, .slice oa A.R.length ca, .int .i64 A.m, .int .i64 A.a, .slice fa A.F.length fca, .int .i64 A.t] 50 #[.int .i64 A.n, .slice ob A.R.length cb, .int .i64 A.m, .int .i64 A.a, .slice fb A.F.length fcb, .int .i64 A.t] 50 3 _ rfl
  have x4 := two_a w #[.int .i64 A.n, .slice oa A.R.length ca, .int .i64 A.m, .int .i64 A.a, .slice fa A.F.length fca, .int .i64 A.t] 50 #[.int .i64 A.n, .slice ob A.R.length cb, .int .i64 A.m, .int .i64 A.a, .slice fb A.F.length fcb, .int .i64 A.t] 50 4 _ rfl
  have x5 := two_a w #[.int .i64 A.n, .slice oa A.R.length ca, .int .i64 A.m, .int .i64 A.a, .slice fa A.F.length fca, .int .i64 A.t] 50 #[.int .i64 A.n, .slice ob A.R.length cb, .int .i64 A.m, .int .i64 A.a, .slice fb A.F.length fcb, .int .i64 A.t] 50 5 _ rfl
  have y2 := two_b w #[.int .i64 A.n, .slice oa A.R.length ca, .int .i64 A.m, .int .i64 A.a, .slice fa A.F.length fca, .int .i64 A.t] 50 #[.int .i64 A.n, .slice ob A.R.length cb, .int .i64 A.m, .int .i64 A.a, .slice fb A.F.length fcb, .int .i64 A.t] 50 2 _ rfl
  have y3 := two_b w #[.int .i64 A.n, .slice oa A.R.length ca, .int .i64 A.m, .int .i64 A.a, .slice fa A.F.length fca, .int .i64 A.t] 50 #[.int .i64 A.n, .slice ob A.R.length cb, .int .i64 A.m, .int .i64 A.a, .slice fb A.F.length fcb, .int .i64 A.t] 50 3 _ rfl
  have y4 := two_b w #[.int .i64 A.n, .slice oa A.R.length ca, .int .i64 A.m, .int .i64 A.a, .slice fa A.F.length fca, .int .i64 A.t] 50 #[.int .i64 A.n, .slice ob A.R.length cb, .int .i64 A.m, .int .i64 A.a, .slice fb A.F.length fcb, .int .i64 A.t] 50 4 _ rfl
  have y5 := two_b w #[.int .i64 A.n, .slice oa A.R.length ca, .int .i64 A.m, .int .i64 A.a, .slice fa A.F.length fca, .int .i64 A.t] 50 #[.int .i64 A.n, .slice ob A.R.length cb, .int .i64 A.m, .int .i64 A.a, .slice fb A.F.length fcb, .int .i64 A.t] 50 5 _ rfl
  have e1 : (A.m != A.m) = false := by simp
  have e2 : (A.a != A.a) = false := by simp
  have e3 : (A.t != A.t) = false := by simp
  go_enter Try.func34, Try.ntmps34
  go_wp2_with (first | (go_at_call 21; refine Calls.mono (c_eqTable _ _ _ _ _ _ _ (hA.keep hb) (hB.keep hb)) ?_; rintro e w1 ⟨rfl, hbn⟩; replace x2 := cell_keep x2 hbn; replace x3 := cell_keep x3 hbn; replace x4 := cell_keep x4 hbn; replace x5 := cell_keep x5 hbn; replace y2 := cell_keep y2 hbn; replace y3 := cell_keep y3 hbn; replace y4 := cell_keep y4 hbn; replace y5 := cell_keep y5 hbn; replace hb := bel_to (w := w) (by first | exact hb | exact hb.alloc hb.size _ | exact (hb.alloc hb.size _).alloc (Nat.le_trans hb.size (by simp)) _ | exact hb.setCell (by simp [hb.size]) _) hbn; clear hbn) | (go_at_call 22; refine Calls.mono (Ans.eqb (b' := true) (c_eqDepS _ _ _ _ _ _ _ (hC.keep hb) (hD.keep hb)) (by simp)) ?_; rintro e w1 ⟨rfl, hbn⟩; replace x2 := cell_keep x2 hbn; replace x3 := cell_keep x3 hbn; replace x4 := cell_keep x4 hbn; replace x5 := cell_keep x5 hbn; replace y2 := cell_keep y2 hbn; replace y3 := cell_keep y3 hbn; replace y4 := cell_keep y4 hbn; replace y5 := cell_keep y5 hbn; replace hb := bel_to (w := w) (by first | exact hb | exact hb.alloc hb.size _ | exact (hb.alloc hb.size _).alloc (Nat.le_trans hb.size (by simp)) _ | exact hb.setCell (by simp [hb.size]) _) hbn; clear hbn) | fail)
  go_ret
  exact ⟨rfl, hb⟩
def set8 (w : World) (g k : Nat) (a4 a5 b0 b1 b2 b3 b4 b5 : Value) : World := (((((((w.setCell ⟨g, 4, none⟩ a4).setCell ⟨g, 5, none⟩ a5).setCell ⟨k, 0, none⟩ b0).setCell ⟨k, 1, none⟩ b1).setCell ⟨k, 2, none⟩ b2).setCell ⟨k, 3, none⟩ b3).setCell ⟨k, 4, none⟩ b4).setCell ⟨k, 5, none⟩ b5
theorem far8 {w : World} {B : Nat} {v : Value} {xs : List Value} {R : List (List Int)} (h : OwnRows w B v xs R) {g k : Nat} (hg : g < B) (hk : k < B) (a4 a5 b0 b1 b2 b3 b4 b5 : Value) : OwnRows (set8 w g k a4 a5 b0 b1 b2 b3 b4 b5) B v xs R :=
  (((((((h.far_set 4 a4 hg).far_set 5 a5 hg).far_set 0 b0 hk).far_set 1 b1 hk).far_set 2 b2 hk).far_set 3 b3 hk).far_set 4 b4 hk).far_set 5 b5 hk
theorem OwnD.far_set {w : World} {B g : Nat} {v : Value} {D : List (Int × Int)} (h : OwnD w B v D) (j : Nat) (u : Value) (hg : g < B) : OwnD (w.setCell ⟨g, j, none⟩ u) B v D := ownsRow_setCell_below h (a := ⟨g, j, none⟩) hg u
theorem dar8 {w : World} {B : Nat} {v : Value} {D : List (Int × Int)} (h : OwnD w B v D) {g k : Nat} (hg : g < B) (hk : k < B) (a4 a5 b0 b1 b2 b3 b4 b5 : Value) : OwnD (set8 w g k a4 a5 b0 b1 b2 b3 b4 b5) B v D :=
  (((((((OwnD.far_set h 4 a4 hg).far_set 5 a5 hg).far_set 0 b0 hk).far_set 1 b1 hk).far_set 2 b2 hk).far_set 3 b3 hk).far_set 4 b4 hk).far_set 5 b5 hk
theorem bar8 {w0 w : World} {B : Nat} (h : Below B w0 w) {g k : Nat} (hg : B ≤ g) (hk : B ≤ k) (a4 a5 b0 b1 b2 b3 b4 b5 : Value) : Below B w0 (set8 w g k a4 a5 b0 b1 b2 b3 b4 b5) :=
  Below.setCell (p := ⟨k, 5, none⟩) (Below.setCell (p := ⟨k, 4, none⟩) (Below.setCell (p := ⟨k, 3, none⟩) (Below.setCell (p := ⟨k, 2, none⟩) (Below.setCell (p := ⟨k, 1, none⟩) (Below.setCell (p := ⟨k, 0, none⟩) (Below.setCell (p := ⟨g, 5, none⟩) (Below.setCell (p := ⟨g, 4, none⟩) h hg a4) hg a5) hk b0) hk b1) hk b2) hk b3) hk b4) hk b5
def srZ : Array Value := #[.int .i64 0, .slice none 0 0, .int .i64 0, .int .i64 0, .slice none 0 0, .int .i64 0]
set_option maxHeartbeats 1600000 in
theorem c_toSearch (A : Sr) (oa fa) (ca fca : Nat) (w : World) (hA : RowsAt w oa A.R) (hC : DepsAt w fa A.F) :
    Calls Try.prog 32 #[.agg #[.int .i64 A.n, .slice oa A.R.length ca, .int .i64 A.m, .int .i64 A.a, .slice fa A.F.length fca, .int .i64 A.t]] w fun e w' => ∃ o c fo fc xs, e = .returned (.agg #[.int .i64 A.n, .slice o A.R.length c, .int .i64 A.m, .int .i64 A.a, .slice fo A.F.length fc, .int .i64 A.t]) ∧ OwnRows w' w.heap.size (.slice o A.R.length c) xs A.R ∧ OwnD w' w.heap.size (.slice fo A.F.length fc) A.F ∧ ApartR (.slice o A.R.length c) xs (.slice fo A.F.length fc) ∧ Below w.heap.size w w' := by
  have hb0 := ((((Below.refl w.heap.size w).alloc (Nat.le_refl _) (.cells #[.int .i64 A.n, .slice oa A.R.length ca, .int .i64 A.m, .int .i64 A.a, .slice fa A.F.length fca, .int .i64 A.t] 46)).alloc (by simp) (.cells srZ 50)).alloc (by simp; omega) (.cells srZ 50))
  unfold srZ at hb0
  go_enter Try.func32, Try.ntmps32
  go_wp2_with fail
  refine (c_toTableO A.n _ _ A.R _ (hA.keep hb0)).mono ?_
  rintro e w1 ⟨o, c, xs, rfl, hN, hbn⟩
  have kA : Blk w1 w.heap.size #[.int .i64 A.n, .slice oa A.R.length ca, .int .i64 A.m, .int .i64 A.a, .slice fa A.F.length fca, .int .i64 A.t] 46 :=
    (((Blk.new w _ _).alloc _).alloc _).keep hbn
  have kR : Blk w1 (w.heap.size + 1) srZ 50 := by
    have := (Blk.new (w.alloc (.cells #[.int .i64 A.n, .slice oa A.R.length ca, .int .i64 A.m, .int .i64 A.a, .slice fa A.F.length fca, .int .i64 A.t] 46)) srZ 50).alloc (.cells srZ 50)
    simp only [World.size_alloc] at this
    exact this.keep hbn
  have kT : Blk w1 (w.heap.size + 1 + 1) srZ 50 := by
    have := Blk.new ((w.alloc (.cells #[.int .i64 A.n, .slice oa A.R.length ca, .int .i64 A.m, .int .i64 A.a, .slice fa A.F.length fca, .int .i64 A.t] 46)).alloc (.cells srZ 50)) srZ 50
    simp only [World.size_alloc] at this
    exact this.keep hbn
  have p2 := kA.cell 2 _ rfl
  have p3 := kA.cell 3 _ rfl
  have p4 := kA.cell 4 _ rfl
  have t0 := kT.cell 0 _ rfl
  have t1 := kT.cell 1 _ rfl
  have t2 := kT.cell 2 _ rfl
  have t3 := kT.cell 3 _ rfl
  have s0 := kT.free 0
  have s1 := kT.free 1
  have s2 := kT.free 2
  have s3 := kT.free 3
  have hb1 := bel_to hb0 hbn
  have hbD : Below w.heap.size w ((((w1.setCell ⟨w.heap.size + 1 + 1, 0, none⟩ (.int .i64 A.n)).setCell ⟨w.heap.size + 1 + 1, 1, none⟩ (.slice o A.R.length c)).setCell ⟨w.heap.size + 1 + 1, 2, none⟩ (.int .i64 A.m)).setCell ⟨w.heap.size + 1 + 1, 3, none⟩ (.int .i64 A.a)) :=
    Below.setCell (Below.setCell (Below.setCell (Below.setCell hb1 (by simp; omega) _) (by simp; omega) _) (by simp; omega) _) (by simp; omega) _
  have hN2 := (((hN.far_set (g := w.heap.size + 1 + 1) 0 (.int .i64 A.n) (by simp)).far_set (g := w.heap.size + 1 + 1) 1 (.slice o A.R.length c) (by simp)).far_set (g := w.heap.size + 1 + 1) 2 (.int .i64 A.m) (by simp)).far_set (g := w.heap.size + 1 + 1) 3 (.int .i64 A.a) (by simp)
  have kT2 := (((kT.set 0 (.int .i64 A.n)).set 1 (.slice o A.R.length c)).set 2 (.int .i64 A.m)).set 3 (.int .i64 A.a)
  have kR2 := (((kR.far ⟨w.heap.size + 1 + 1, 0, none⟩ (.int .i64 A.n) (by simp)).far ⟨w.heap.size + 1 + 1, 1, none⟩ (.slice o A.R.length c) (by simp)).far ⟨w.heap.size + 1 + 1, 2, none⟩ (.int .i64 A.m) (by simp)).far ⟨w.heap.size + 1 + 1, 3, none⟩ (.int .i64 A.a) (by simp)
  have kA2 := (((kA.far ⟨w.heap.size + 1 + 1, 0, none⟩ (.int .i64 A.n) (by simp; omega)).far ⟨w.heap.size + 1 + 1, 1, none⟩ (.slice o A.R.length c) (by simp; omega)).far ⟨w.heap.size + 1 + 1, 2, none⟩ (.int .i64 A.m) (by simp; omega)).far ⟨w.heap.size + 1 + 1, 3, none⟩ (.int .i64 A.a) (by simp; omega)
  clear hbn kA kR kT hN hb1
  go_wp2_with fail
  refine (c_toDepS _ _ _ _ (hC.keep hbD)).mono ?_
  rintro e w2 ⟨v2, rfl, hO, hbn⟩
  have ap := hN2.fresh hO
  obtain ⟨fo, fc, rfl⟩ := hO.shape
  have hbase : w.heap.size + 1 + 1 + 1 ≤ w1.heap.size := by have h9 := World.block_lt_of_cell? _ _ t0; simp at h9; omega
  replace hO := hO.based (show w.heap.size + 1 + 1 + 1 ≤ _ by simp; omega)
  have hN3 := hN2.keep hbn
  have kT3 := kT2.keep hbn
  have kR3 := kR2.keep hbn
  have kA3 := kA2.keep hbn
  have hb2 := bel_to hbD hbn
  clear hbn hN2 kT2 kR2 kA2 hbD p2 p3 p4 t0 t1 t2 t3 s0 s1 s2 s3
  have p5 := kA3.cell 5 (.int .i64 A.t) rfl
  have t0 := kT3.cell 0 (.int .i64 A.n) rfl
  have t1 := kT3.cell 1 (.slice o A.R.length c) rfl
  have t2 := kT3.cell 2 (.int .i64 A.m) rfl
  have t3 := kT3.cell 3 (.int .i64 A.a) rfl
  have t4 := kT3.cell 4 (.slice none 0 0) rfl
  have t5 := kT3.cell 5 (.int .i64 0) rfl
  have s4 := kT3.free 4
  have s5 := kT3.free 5
  have r0 := kR3.cell 0 (.int .i64 0) rfl
  have r1 := kR3.cell 1 (.slice none 0 0) rfl
  have r2 := kR3.cell 2 (.int .i64 0) rfl
  have r3 := kR3.cell 3 (.int .i64 0) rfl
  have r4 := kR3.cell 4 (.slice none 0 0) rfl
  have r5 := kR3.cell 5 (.int .i64 0) rfl
  have q0 := kR3.free 0
  have q1 := kR3.free 1
  have q2 := kR3.free 2
  have q3 := kR3.free 3
  have q4 := kR3.free 4
  have q5 := kR3.free 5
  clear kT3 kR3 kA3
  go_wp2
  have x1 := far8 hN3 (g := w.heap.size + 1 + 1) (k := w.heap.size + 1) (by simp) (by simp <;> omega) (.slice fo A.F.length fc) (.int .i64 A.t) (.int .i64 A.n) (.slice o A.R.length c) (.int .i64 A.m) (.int .i64 A.a) (.slice fo A.F.length fc) (.int .i64 A.t)
  have x2 := dar8 hO (g := w.heap.size + 1 + 1) (k := w.heap.size + 1) (by omega) (by omega) (.slice fo A.F.length fc) (.int .i64 A.t) (.int .i64 A.n) (.slice o A.R.length c) (.int .i64 A.m) (.int .i64 A.a) (.slice fo A.F.length fc) (.int .i64 A.t)
  have x3 := bar8 hb2 (g := w.heap.size + 1 + 1) (k := w.heap.size + 1) (by omega) (by omega) (.slice fo A.F.length fc) (.int .i64 A.t) (.int .i64 A.n) (.slice o A.R.length c) (.int .i64 A.m) (.int .i64 A.a) (.slice fo A.F.length fc) (.int .i64 A.t)
  exact bodyPost_ret (v := .agg #[.int .i64 A.n, .slice o A.R.length c, .int .i64 A.m, .int .i64 A.a, .slice fo A.F.length fc, .int .i64 A.t]) (by simp [results, Try.results32, go_sem, r0, r1, r2, r3, r4, r5]) rfl
    ⟨o, c, fo, fc, xs, rfl, x1.based (by simp <;> omega), x2.based (by omega), ap, x3⟩
end Go.Proofs.Ytkanbnbofoabeaa
namespace Go.Proofs.Ytkanbnbofoabeaa
open Go.RowKit
set_option linter.unusedVariables false
set_option maxRecDepth 100000
set_option maxHeartbeats 1600000

theorem step_append_own {P : Program} (w : World) {ops : Array Oper} {o : Oper} {a : Act} {K : Act → World → Prop} {Q : Exit → Act → World → Prop} {E : Prop} (hgd : o.guard = none) (s x : Operand) (t : TypeId)
    (ho : o.op = .call { callee := .builtin .append, args := #[s, x], argTypes := #[t, t] })
    (base : Nat) (e : TypeId) (i : TypeInfo) (z : Value) (size bytes : Nat) (ht : P.underlying t = some (.slice e)) (hi : P.info? e = some i) (hz : i.zero = some z)
    (hsize : i.size = size) (hby : i.bytes = bytes) (hzs : z.cells.size = size) (hsz : 0 < size)
    (v : Value) (n : Nat) (xs : List Value) (hs : a.eval s = v) (hown : w.ownsRow base e size v n xs)
    (ad : Addr) (m c : Nat) (news : List Value) (hx : a.eval x = .slice (some ad) m c) (hl : news.length = m * size) (hnews : ∀ j u, news[j]? = some u → w.cell? (ad.add j) = some u) (h1 : ∀ u ∈ news, u.oneCell' = true)
    (h63 : n + m ≤ maxLen) (hbytes : (n + m) * bytes ≤ 140737488355328) (hbase : base ≤ w.heap.size)
    (h : ∀ v' w', w'.ownsRow base e size v' (n + m) (xs ++ news) → w.grownBy w' v.ownBlock → K (a.put o.dst v') w') :
    if Region.wanted o (yielded ops a.tmps) = true then Oper.wp P o a w K Q else E := by
  have hw : Region.wanted o (yielded ops a.tmps) = true := by simp [Region.wanted, hgd]
  rw [if_pos hw]
  exact wp_append_own w s x t ho base e i z size bytes ht hi hz hsize hby hzs hsz v n xs hs hown ad m c news hx hl hnews h1 h63 hbytes hbase fun v' w' h2 h3 _ => h v' w' h2 h3

/-- An operation whose guard is shut, taken first. -/
theorem wpAnyH_skip {P : Program} {ops : Array Oper} {Q : Exit → Act → World → Prop} {md : Region.Mode} {S : World → Prop} {i : Nat} {oi : Oper} (d : Option Nat) {fuel : Nat} {listed : Array Bool} {a : Act} {w : World} (hi : ops[i]? = some oi) (hd : oi.dst = d)
    (hs : Region.noSelect ops = true) (hf : Region.free md ops listed i = true) (hr : (Region.ready md ops listed).contains i = true)
    (hQ : ∀ c a w, Q (.panic c) (a.put d undef) w → Q (.panic c) a w) (hy : Region.wanted oi (yielded ops a.tmps) = false) (hS : S w)
    (h : wpAnyH P md ops Q S fuel (listed.setIfInBounds i true) (a.put d undef) w) : wpAnyH P md ops Q S (fuel + 1) listed a w := by
  subst hd
  exact wpAnyH_take hi hs hf hr hQ (Or.inr ⟨hy, rfl⟩) hS h
/-- An operation that yields a value whatever the world, taken first. -/
theorem wpAnyH_val {P : Program} {ops : Array Oper} {Q : Exit → Act → World → Prop} {md : Region.Mode} {S : World → Prop} {i : Nat} {oi : Oper} (d : Option Nat) (v : Value) {fuel : Nat} {listed : Array Bool} {a : Act} {w : World} (hi : ops[i]? = some oi) (hd : oi.dst = d)
    (hs : Region.noSelect ops = true) (hf : Region.free md ops listed i = true) (hr : (Region.ready md ops listed).contains i = true)
    (hQ : ∀ c a w, Q (.panic c) (a.put d v) w → Q (.panic c) a w) (hw : Region.wanted oi (yielded ops a.tmps) = true) (hS : S w) (hy : ∀ w, S w → (execOp a.eval oi).run P w = .ok (.value v) w)
    (h : wpAnyH P md ops Q S fuel (listed.setIfInBounds i true) (a.put d v) w) : wpAnyH P md ops Q S (fuel + 1) listed a w := by
  subst hd
  exact wpAnyH_take hi hs hf hr hQ (Or.inl ⟨hw, hy⟩) hS h
theorem nl_take {D : List (Int × Int)} {i k : Nat} (h : k < i) : nl (D.take i) k = nl D k := by unfold nl; simp [List.getD, h]
theorem nr_take {D : List (Int × Int)} {i k : Nat} (h : k < i) : nr (D.take i) k = nr D k := by unfold nr; simp [List.getD, h]
theorem DepsAt.take {w : World} {oa : Option Addr} {D : List (Int × Int)} (h : DepsAt w oa D) (i : Nat) : DepsAt w oa (D.take i) := by
  refine ⟨by have := h.len; rw [List.length_take]; omega, fun h0 => ?_⟩
  rw [List.length_take] at h0
  obtain ⟨b, off, e, hlt, hc⟩ := h.at_ (by omega)
  refine ⟨b, off, e, hlt, fun k hk => ?_⟩
  rw [List.length_take] at hk
  rw [nl_take (by omega), nr_take (by omega)]
  exact hc k (by omega)
theorem c_copyTake (a : Addr) (cap i : Nat) (D : List (Int × Int)) (w : World) (hD : DepsAt w (some a) D) (hi : i ≤ D.length) :
    Calls Try.prog 136 #[.slice (some a) i cap] w fun e w' => ∃ v, e = .returned v ∧ OwnD w' w.heap.size v (D.take i) ∧ Below w.heap.size w w' := by
  have h := c_copyDeps (some a) cap (D.take i) w (hD.take i) (by intro h; cases h)
  rwa [List.length_take, Nat.min_eq_left hi] at h
theorem OwnD.row {w : World} {base : Nat} {v : Value} {i : Nat} {D : List (Int × Int)} (hi : i ≤ D.length) (h : OwnD w base v (D.take i)) : w.ownsRow base 33 2 v i (dcells (D.take i)) := by
  unfold OwnD at h; rwa [List.length_take, Nat.min_eq_left hi] at h

theorem no_news {w : World} {ad : Addr} : ∀ (j : Nat) (u : Value), ([] : List Value)[j]? = some u → w.cell? (ad.add j) = some u := by intro j u hj; cases hj
theorem no_one : ∀ u ∈ ([] : List Value), u.oneCell' = true := by intro u hu; cases hu
end Go.Proofs.Ytkanbnbofoabeaa
namespace Go.Proofs.Ytkanbnbofoabeaa
open Go.RowKit
set_option linter.unusedVariables false
set_option maxRecDepth 100000

def set6 (w : World) (k : Nat) (b0 b1 b2 b3 b4 b5 : Value) : World := (((((w.setCell ⟨k, 0, none⟩ b0).setCell ⟨k, 1, none⟩ b1).setCell ⟨k, 2, none⟩ b2).setCell ⟨k, 3, none⟩ b3).setCell ⟨k, 4, none⟩ b4).setCell ⟨k, 5, none⟩ b5
theorem OwnD.set_ne {w : World} {B g : Nat} {v : Value} {D : List (Int × Int)} (h : OwnD w B v D) (j : Nat) (u : Value) (hg : v.ownBlock ≠ some g) : OwnD (w.setCell ⟨g, j, none⟩ u) B v D := ownsRow_setCell_other h (a := ⟨g, j, none⟩) hg u
theorem OwnD.set6 {w : World} {B k : Nat} {v : Value} {D : List (Int × Int)} (h : OwnD w B v D) (hk : v.ownBlock ≠ some k) (b0 b1 b2 b3 b4 b5 : Value) : OwnD (set6 w k b0 b1 b2 b3 b4 b5) B v D :=
  (((((h.set_ne 0 b0 hk).set_ne 1 b1 hk).set_ne 2 b2 hk).set_ne 3 b3 hk).set_ne 4 b4 hk).set_ne 5 b5 hk
theorem bel_set6 {w0 w : World} {B : Nat} (h : Below B w0 w) {k : Nat} (hk : B ≤ k) (b0 b1 b2 b3 b4 b5 : Value) : Below B w0 (set6 w k b0 b1 b2 b3 b4 b5) :=
  Below.setCell (p := ⟨k, 5, none⟩) (Below.setCell (p := ⟨k, 4, none⟩) (Below.setCell (p := ⟨k, 3, none⟩) (Below.setCell (p := ⟨k, 2, none⟩) (Below.setCell (p := ⟨k, 1, none⟩) (Below.setCell (p := ⟨k, 0, none⟩) h hk b0) hk b1) hk b2) hk b3) hk b4) hk b5
theorem OwnD.nilcap {w : World} {B n c : Nat} {oa : Option Addr} {D : List (Int × Int)} (h : OwnD w B (.slice oa n c) D) : oa = none → c = 0 := by
  intro e
  subst e
  rcases h.2 with ⟨hv, _⟩ | ⟨g, c', cur, hv, _⟩
  · cases hv; rfl
  · cases hv
theorem OwnD.not_new {w : World} {B : Nat} {v : Value} {D : List (Int × Int)} (h : OwnD w B v D) {g : Nat} (hg : w.heap.size ≤ g) : v.ownBlock ≠ some g := fun e => by
  have := (World.ownsRow.lt h g e).2
  omega
theorem Fresh.self (w : World) (v : Value) : Fresh w v v := .inl rfl
theorem covS_take {F : List (Int × Int)} {x r : Int} {j : Nat} (hj : j < F.length) : covS (F.take (j + 1)) x r = (covS (F.take j) x r || ((nr F j == r) && ins (nl F j) x)) := by
  unfold covS
  rw [List.take_add_one, dnth_eq hj, List.any_append]; simp
theorem covS_at {F : List (Int × Int)} {x r : Int} {j : Nat} (hj : j < F.length) (h : ((nr F j == r) && ins (nl F j) x) = true) : covS F x r = true := List.any_eq_true.2 ⟨(nl F j, nr F j), List.mem_iff_getElem?.2 ⟨j, dnth_eq hj⟩, h⟩
theorem ask_cand {N k : Nat} {R : List (List Int)} {m : Int} (ht : isTabF N R = true) (hm : modeF m = true) (hk : k < N * 2 ^ N) : askF N R m (candF N k).1 (candF N k).2 = true := by
  obtain ⟨h1, h5, _, _⟩ := isTab_of ht
  obtain ⟨_, c1, c2, c3, c4⟩ := cand_ok (by omega) (by omega) hk
  unfold askF isDepF isAttr
  rw [ht, hm]
  simp only [Bool.and_self, Bool.true_and, Bool.and_eq_true, decide_eq_true_eq, Int.toNat_natCast]
  exact ⟨⟨⟨h1, ⟨⟨⟨by omega, h5⟩, c1.1⟩, c3⟩⟩, c2.1⟩, c4⟩
theorem Blk.grown {a b : World} {g : Nat} {c : Array Value} {T : TypeId} {row : Option Nat} (h : Blk a g c T) (hg : a.grownBy b row) (hne : some g ≠ row) : Blk b g c T := (hg.block g h.lt hne).trans h
theorem lit_keep {w w' : World} {n : Nat} {c : Array Value} {T : TypeId} (h : Below n (w.alloc (.cells c T)) w') (hn : n = w.heap.size + 1) : w'.heap[w.heap.size]? = some (.cells c T (0, 0)) := (h.block w.heap.size (by omega)).trans (heap_alloc_new w _)
theorem lit_keep_drew {w w' : World} {n : Nat} {c : Array Value} {T : TypeId} (h : Below n (w.alloc (.cells c T)).drew w') (hn : n = w.heap.size + 1) : w'.heap[w.heap.size]? = some (.cells c T (0, 0)) := (h.block w.heap.size (by omega)).trans (heap_alloc_new w _)
theorem own_snocD' {w : World} {base : Nat} {v : Value} {A : List (Int × Int)} {l r : Int} (h : w.ownsRow base 33 2 v (A.length + 1) (dcells A ++ [.int .i64 l, .int .i64 r])) : OwnD w base v (A ++ [(l, r)]) := OwnD.joined (B := [(l, r)]) h
theorem snoc_shape {w : World} {base : Nat} {v : Value} {A : List (Int × Int)} {d : Int × Int} (h : OwnD w base v (A ++ [d])) : ∃ o c, v = .slice o (A.length + 1) c := by
  obtain ⟨o, c, e⟩ := h.shape
  exact ⟨o, c, by rw [e]; simp⟩
set_option maxHeartbeats 3200000 in
theorem c_step (N k : Nat) (oa fo) (cap fc : Nat) (R : List (List Int)) (m t : Int) (F : List (Int × Int)) (B : Nat) (w : World) (hR : RowsAt w oa R) (ht : isTabF N R = true) (hm : modeF m = true) (hk : k < N * 2 ^ N)
    (hF : OwnD w B (.slice fo F.length fc) F) (hB : B ≤ w.heap.size) (hFl : F.length ≤ 160) (ht0 : 0 ≤ t) (ht1 : t ≤ 160) :
    Calls Try.prog 99 #[.agg #[.int .i64 N, .slice oa R.length cap, .int .i64 m, .int .i64 k, .slice fo F.length fc, .int .i64 t]] w fun e w' => ∃ fo' fc', e = .returned (.agg #[.int .i64 N, .slice oa R.length cap, .int .i64 m, .int .i64 ((k : Int) + 1), .slice fo' (stepF R m N k (F, t)).1.length fc', .int .i64 (stepF R m N k (F, t)).2]) ∧ OwnD w' B (.slice fo' (stepF R m N k (F, t)).1.length fc') (stepF R m N k (F, t)).1 ∧ Fresh w (.slice fo F.length fc) (.slice fo' (stepF R m N k (F, t)).1.length fc') ∧ Below w.heap.size w w' := by
  obtain ⟨i0, hi, hz0, hz1, hz2⟩ := info_parts info_dep
  obtain ⟨hn1, hn5, _, _⟩ := isTab_of ht
  have hN5 : N ≤ 5 := by omega
  have hN1 : 1 ≤ N := by omega
  have hk160 := count_le hN5
  obtain ⟨_, hst, hco, _, _⟩ := cand_ok hN5 hN1 hk
  have hask := ask_cand (R := R) (m := m) ht hm hk
  have HZ : Hid (stepF R m N k (F, t) = if hasc (candF N k).1 (candF N k).2 || covS F (candF N k).1 (candF N k).2 then (F, t) else (if holdsF R m (candF N k).1 (candF N k).2 then F ++ [((candF N k).1, (candF N k).2)] else F, t + 1)) := rfl
  have HCD : Hid (∀ w', Ans Try.prog 101 #[.int .i64 N, .int .i64 k] w' (.agg #[.int .i64 (candF N k).1, .int .i64 (candF N k).2])) := fun w' => c_candidate N k hN5 hN1 hk w'
  generalize hz : stepF R m N k (F, t) = z at *
  clear hz
  generalize (candF N k).1 = x at *
  generalize (candF N k).2 = r at *
  have hr64 : 0 ≤ r ∧ r < 64 := ⟨hco.1, by have := hco.2; omega⟩
  have hR0 := hR
  have hFn : (Value.slice fo F.length fc).ownBlock ≠ some w.heap.size ∧ (Value.slice fo F.length fc).ownBlock ≠ some (w.heap.size + 1) := ⟨hF.not_new (Nat.le_refl _), hF.not_new (Nat.le_succ _)⟩
  have HNC : Hid (fo = none → fc = 0) := hF.nilcap
  have HST : Hid (St x ∧ Co r) := ⟨hst, hco⟩
  have hb := bel2 w (.cells #[.int .i64 N, .slice oa R.length cap, .int .i64 m, .int .i64 k, .slice fo F.length fc, .int .i64 t] 50) (.cells srZ 50)
  have kS := (Blk.new w #[.int .i64 N, .slice oa R.length cap, .int .i64 m, .int .i64 k, .slice fo F.length fc, .int .i64 t] 50).alloc (.cells srZ 50)
  have kZ := Blk.new (w.alloc (.cells #[.int .i64 N, .slice oa R.length cap, .int .i64 m, .int .i64 k, .slice fo F.length fc, .int .i64 t] 50)) srZ 50
  simp only [World.size_alloc] at kZ
  have hF0 := hF.keep hb
  unfold srZ at hb kS kZ hF0
  have s0 := kS.cell 0 (.int .i64 N) rfl
  have s3 := kS.cell 3 (.int .i64 k) rfl
  clear hst hco ht hm hF
  go_enter Try.func99, Try.ntmps99
  go_wp2_with fail
  refine Calls.mono (HCD.out _) ?_
  rintro e w1 ⟨rfl, hbn⟩
  replace kS := kS.keep hbn
  replace kZ := kZ.keep hbn
  replace hF := hF0.keep hbn
  replace hb := bel_to hb hbn
  have hs1 : w.heap.size + 1 < w1.heap.size := kZ.lt
  clear hbn s0 s3 hF0
  have s3 := kS.cell 3 (.int .i64 k) rfl
  have kS1 := kS.alloc (.cells #[.int .i64 x, .int .i64 r] 33)
  have kZ1 := kZ.alloc (.cells #[.int .i64 x, .int .i64 r] 33)
  have kD1 := Blk.new w1 #[.int .i64 x, .int .i64 r] 33
  have hb1 := hb.alloc hb.size (.cells #[.int .i64 x, .int .i64 r] 33)
  have hF1 := hF.keep ((Below.refl w1.heap.size w1).alloc (Nat.le_refl _) (.cells #[.int .i64 x, .int .i64 r] 33))
  have hFd : (Value.slice fo F.length fc).ownBlock ≠ some w1.heap.size := hF.not_new (Nat.le_refl _)
  have s3' := kS1.cell 3 (.int .i64 k) rfl
  have f3' := kS1.free 3
  have kS2 : Blk _ w.heap.size #[.int .i64 N, .slice oa R.length cap, .int .i64 m, .int .i64 ((k : Int) + 1), .slice fo F.length fc, .int .i64 t] 50 := kS1.set 3 (.int .i64 ((k : Int) + 1))
  have kZ2 := kZ1.far ⟨w.heap.size, 3, none⟩ (.int .i64 ((k : Int) + 1)) (by simp)
  have kD2 := kD1.far ⟨w.heap.size, 3, none⟩ (.int .i64 ((k : Int) + 1)) (by simp; omega)
  have hb2 := Below.setCell (p := (⟨w.heap.size, 3, none⟩ : Addr)) hb1 (Nat.le_refl _) (.int .i64 ((k : Int) + 1))
  have hF2 := hF1.set_ne 3 (.int .i64 ((k : Int) + 1)) hFn.1
  have d0 := kD2.cell 0 (.int .i64 x) rfl
  have d1 := kD2.cell 1 (.int .i64 r) rfl
  have hs2 : w1.heap.size < ((w1.alloc (.cells #[.int .i64 x, .int .i64 r] 33)).setCell ⟨w.heap.size, 3, none⟩ (.int .i64 ((k : Int) + 1))).heap.size := by simp
  clear kS kZ hb kS1 kZ1 kD1 hb1 hF hF1
  go_wp2_with fail
  cases h1 : hasc x r
  · refine Calls.mono (Ans.eqb (c_has _ _ hr64 _) h1) ?_
    rintro e w3 ⟨rfl, hbn⟩
    replace kS2 := kS2.keep hbn
    replace kZ2 := kZ2.keep hbn
    replace kD2 := kD2.keep hbn
    replace hF2 := hF2.keep hbn
    replace hb2 := bel_to hb2 hbn
    clear hbn d0 d1 s3 s3' f3'
    have s4 := kS2.cell 4 (.slice fo F.length fc) rfl
    generalize hd9 : w1.heap.size = d at *
    have hsd : w.heap.size + 1 < d := hs1
    clear hd9 hs2 hs1
    have hFr : F.length ≤ Room := by unfold Room; omega
    go_wp2
    go_loopw [25] (fun i wr => ∃ j : Nat, i = .int .i64 j ∧ j ≤ F.length ∧ covS (F.take j) x r = false ∧ Blk wr w.heap.size #[.int .i64 N, .slice oa R.length cap, .int .i64 m, .int .i64 ((k : Int) + 1), .slice fo F.length fc, .int .i64 t] 50 ∧ Blk wr (w.heap.size + 1) srZ 50 ∧ Blk wr d #[.int .i64 x, .int .i64 r] 33 ∧ OwnD wr B (.slice fo F.length fc) F ∧ Below w.heap.size w wr) (fun i _ => F.length - (intOf i).toNat)
    case atStart => exact ⟨0, rfl, Nat.zero_le _, rfl, kS2, kZ2, kD2, hF2, hb2⟩
    case round =>
      clear kS2 kZ2 kD2 hF2 hb2 s4
      obtain ⟨j, rfl, hj, hcov, kS, kZ, kD, hF, hb⟩ := hrel
      have HC : Hid (covS (F.take j) x r = false) := hcov
      clear hcov
      by_cases hlt : j < F.length
      · obtain ⟨b, off, rfl, hbs, hc⟩ := (hF.deps rfl hFr).at_ (by omega)
        have hc1 := (hc j hlt).1
        have hc2 := (hc j hlt).2
        have HT : Hid (covS (F.take (j + 1)) x r = (covS (F.take j) x r || ((nr F j == r) && ins (nl F j) x))) := covS_take hlt
        have HA : Hid (((nr F j == r) && ins (nl F j) x) = true → covS F x r = true) := covS_at hlt
        clear hc
        generalize nl F j = a at *
        generalize nr F j = q at *
        have hba := (Below.refl wr.heap.size wr).alloc (Nat.le_refl _) (.cells #[.int .i64 a, .int .i64 q] 33)
        replace kS := kS.keep hba
        replace kZ := kZ.keep hba
        replace kD := kD.keep hba
        replace hF := hF.keep hba
        replace hb := bel_to hb hba
        have g0 := box_at wr #[.int .i64 a, .int .i64 q] 33 0 _ rfl
        have g1 := box_at wr #[.int .i64 a, .int .i64 q] 33 1 _ rfl
        have d0 := kD.cell 0 (.int .i64 x) rfl
        have d1 := kD.cell 1 (.int .i64 r) rfl
        clear hba
        cases hq : (q == r)
        · go_wp2
          go_roundw
          case rel => exact ⟨j + 1, by go_num, by omega, by rw [HT.out, HC.out, hq]; rfl, kS, kZ, kD, hF, hb⟩
          case measure => simp [intOf]; omega
        · cases hi3 : ins a x
          · go_wp2_with fail
            refine Calls.mono (Ans.eqb (c_inside _ _ _) hi3) ?_
            rintro e w4 ⟨rfl, hbn⟩
            replace kS := kS.keep hbn
            replace kZ := kZ.keep hbn
            replace kD := kD.keep hbn
            replace hF := hF.keep hbn
            replace hb := bel_to hb hbn
            clear hbn g0 g1 d0 d1
            go_wp2
            go_roundw
            case rel => exact ⟨j + 1, by go_num, by omega, by rw [HT.out, HC.out, hq, hi3]; rfl, kS, kZ, kD, hF, hb⟩
            case measure => simp [intOf]; omega
          · have HV : Hid (z = (F, t)) := by show z = (F, t); rw [HZ.out, h1, HA.out (by rw [hq, hi3]; rfl)]; rfl
            go_wp2_with fail
            refine Calls.mono (Ans.eqb (c_inside _ _ _) hi3) ?_
            rintro e w4 ⟨rfl, hbn⟩
            replace kS := kS.keep hbn
            replace kZ := kZ.keep hbn
            replace hF := hF.keep hbn
            replace hb := bel_to hb hbn
            clear hbn g0 g1 d0 d1 kD
            have s0 := kS.cell 0 (.int .i64 N) rfl
            have s1 := kS.cell 1 (.slice oa R.length cap) rfl
            have s2 := kS.cell 2 (.int .i64 m) rfl
            have s3 := kS.cell 3 (.int .i64 ((k : Int) + 1)) rfl
            have s4 := kS.cell 4 (.slice (some ⟨b, off, none⟩) F.length fc) rfl
            have s5 := kS.cell 5 (.int .i64 t) rfl
            have z0 := kZ.cell 0 (.int .i64 0) rfl
            have z1 := kZ.cell 1 (.slice none 0 0) rfl
            have z2 := kZ.cell 2 (.int .i64 0) rfl
            have z3 := kZ.cell 3 (.int .i64 0) rfl
            have z4 := kZ.cell 4 (.slice none 0 0) rfl
            have z5 := kZ.cell 5 (.int .i64 0) rfl
            have f0 := kZ.free 0
            have f1 := kZ.free 1
            have f2 := kZ.free 2
            have f3 := kZ.free 3
            have f4 := kZ.free 4
            have f5 := kZ.free 5
            go_wp2
            refine bodyPost_ret (v := .agg #[.int .i64 N, .slice oa R.length cap, .int .i64 m, .int .i64 ((k : Int) + 1), .slice (some ⟨b, off, none⟩) F.length fc, .int .i64 t]) (by simp [results, Try.results99, go_sem, z0, z1, z2, z3, z4, z5]) rfl ?_
            rw [HV.out]
            exact ⟨_, fc, rfl, OwnD.set6 hF hFn.2 _ _ _ _ _ _, Fresh.self _ _, bel_set6 hb (Nat.le_succ _) _ _ _ _ _ _⟩
      · have hjj : j = F.length := by omega
        have HCF : Hid (covS F x r = false) := by have h := HC.out; rw [hjj, List.take_length] at h; exact h
        clear hjj
        have s5 := kS.cell 5 (.int .i64 t) rfl
        have f5 := kS.free 5
        have kS2 : Blk _ w.heap.size #[.int .i64 N, .slice oa R.length cap, .int .i64 m, .int .i64 ((k : Int) + 1), .slice fo F.length fc, .int .i64 (t + 1)] 50 := kS.set 5 (.int .i64 (t + 1))
        have kZ2 := kZ.far ⟨w.heap.size, 5, none⟩ (.int .i64 (t + 1)) (by simp)
        have kD2 := kD.far ⟨w.heap.size, 5, none⟩ (.int .i64 (t + 1)) (by simp; omega)
        have hb2 := Below.setCell (p := (⟨w.heap.size, 5, none⟩ : Addr)) hb (Nat.le_refl _) (.int .i64 (t + 1))
        have hF2 := hF.set_ne 5 (.int .i64 (t + 1)) hFn.1
        have s0 := kS2.cell 0 (.int .i64 N) rfl
        have s1 := kS2.cell 1 (.slice oa R.length cap) rfl
        have s2 := kS2.cell 2 (.int .i64 m) rfl
        have d0 := kD2.cell 0 (.int .i64 x) rfl
        have d1 := kD2.cell 1 (.int .i64 r) rfl
        clear kS kZ kD hb hF
        go_wp2_with fail
        cases h2 : holdsF R m x r
        · have HV : Hid (z = (F, t + 1)) := by show z = (F, t + 1); rw [HZ.out, h1, HCF.out, h2]; rfl
          refine Calls.mono (Ans.eqb (b' := false) (c_HoldsDep N oa cap R m x r _ (hR0.keep hb2)) (by rw [h2]; simp)) ?_
          rintro e w5 ⟨rfl, hbn⟩
          replace kS2 := kS2.keep hbn
          replace kZ2 := kZ2.keep hbn
          replace hF2 := hF2.keep hbn
          replace hb2 := bel_to hb2 hbn
          clear hbn d0 d1 s0 s1 s2 s5 f5 kD2
          have s0 := kS2.cell 0 (.int .i64 N) rfl
          have s1 := kS2.cell 1 (.slice oa R.length cap) rfl
          have s2 := kS2.cell 2 (.int .i64 m) rfl
          have s3 := kS2.cell 3 (.int .i64 ((k : Int) + 1)) rfl
          have s4 := kS2.cell 4 (.slice fo F.length fc) rfl
          have s5 := kS2.cell 5 (.int .i64 (t + 1)) rfl
          have z0 := kZ2.cell 0 (.int .i64 0) rfl
          have z1 := kZ2.cell 1 (.slice none 0 0) rfl
          have z2 := kZ2.cell 2 (.int .i64 0) rfl
          have z3 := kZ2.cell 3 (.int .i64 0) rfl
          have z4 := kZ2.cell 4 (.slice none 0 0) rfl
          have z5 := kZ2.cell 5 (.int .i64 0) rfl
          have f0 := kZ2.free 0
          have f1 := kZ2.free 1
          have f2 := kZ2.free 2
          have f3 := kZ2.free 3
          have f4 := kZ2.free 4
          have f5 := kZ2.free 5
          go_wp2
          refine bodyPost_ret (v := .agg #[.int .i64 N, .slice oa R.length cap, .int .i64 m, .int .i64 ((k : Int) + 1), .slice fo F.length fc, .int .i64 (t + 1)]) (by simp [results, Try.results99, go_sem, z0, z1, z2, z3, z4, z5]) rfl ?_
          rw [HV.out]
          exact ⟨fo, fc, rfl, OwnD.set6 hF2 hFn.2 _ _ _ _ _ _, Fresh.self _ _, bel_set6 hb2 (Nat.le_succ _) _ _ _ _ _ _⟩
        · have HV : Hid (z = (F ++ [(x, r)], t + 1)) := by show z = _; rw [HZ.out, h1, HCF.out, h2]; rfl
          refine Calls.mono (Ans.eqb (b' := true) (c_HoldsDep N oa cap R m x r _ (hR0.keep hb2)) (by rw [h2, hask]; rfl)) ?_
          rintro e w5 ⟨rfl, hbn⟩
          replace kS2 := kS2.keep hbn
          replace kZ2 := kZ2.keep hbn
          replace kD2 := kD2.keep hbn
          replace hF2 := hF2.keep hbn
          replace hb2 := bel_to hb2 hbn
          clear hbn d0 d1 s0 s1 s2 s5 f5
          have s4 := kS2.cell 4 (.slice fo F.length fc) rfl
          have f4 := kS2.free 4
          have d0 := kD2.cell 0 (.int .i64 x) rfl
          have d1 := kD2.cell 1 (.int .i64 r) rfl
          have s4b : (w5.alloc (.cells #[.int .i64 x, .int .i64 r] 33)).drew.cell? ⟨w.heap.size, 4, none⟩ = some (.slice fo F.length fc) := (kS2.alloc _).cell 4 _ rfl
          have hbase : B ≤ w5.heap.size := Nat.le_trans hB hb2.size
          have h63 : F.length + 1 ≤ maxLen := by unfold maxLen; omega
          have h64 : (F.length + 1) * 16 ≤ 140737488355328 := by omega
          go_wp2_with fail
          go_region_law (first
            | (go_simp; refine (c_copyDeps fo fc F _ ((hF2.keep (by first | exact (Below.refl _ _).drew | exact (Below.refl _ _).drew.alloc (Nat.le_refl _) _)).deps rfl hFr) HNC.out).mono ?_; rintro e w6 ⟨v6, rfl, hO, hbn⟩; have hb56 := bel_to (w := w5) (by first | exact (Below.refl _ _).drew | exact (Below.refl _ _).drew.alloc (Nat.le_refl _) _) hbn; replace hO := hO.based (show w5.heap.size ≤ _ by simp); have kS6 := kS2.keep hb56; have kZ6 := kZ2.keep hb56; have kD6 := kD2.keep hb56; have hb6 := bel_to hb2 hb56; have d0 := kD6.cell 0 (.int .i64 x) rfl; have d1 := kD6.cell 1 (.int .i64 r) rfl)
            | (refine step_append_own _ (by rfl) _ _ 31 (by rfl) w5.heap.size 33 i0 (.agg #[.int .i64 0, .int .i64 0]) 2 16 Try.underlying31 hi hz0 hz1 hz2 rfl (by decide) v6 _ _ (by rfl) (World.ownsRow.alloc hO _) _ 1 1 [.int .i64 x, .int .i64 r] (by rfl) rfl (World.news_of_block (cs := #[.int .i64 x, .int .i64 r]) (t := 33) (fr := (0, 0)) (heap_alloc_new _ _)) (by intro u hu; simp at hu; rcases hu with rfl | rfl <;> rfl) (show _ from h63) (show _ from h64) (by have := hb56.size; simp; omega) ?_; intro v7 w7 hown hgrow; have hne9 := fun (g : Nat) (hg : g < w5.heap.size) => (show some g ≠ v6.ownBlock from fun e => by have := (World.ownsRow.lt hO g e.symm).1; omega); have kS7 := (kS6.alloc _).grown hgrow (hne9 _ kS2.lt); have kZ7 := (kZ6.alloc _).grown hgrow (hne9 _ kZ2.lt); have hb7 := (hb6.alloc hb6.size _).grown hgrow (by have := hb6.size; simp; omega) (fun g hg => Nat.le_trans hb2.size (World.ownsRow.lt hO g hg).1); have hO7 := own_snocD' hown; clear hown hgrow; obtain ⟨o7, c7, rfl⟩ := snoc_shape hO7; have s4 := kS7.cell 4 (.slice fo F.length fc) rfl; have f4 := kS7.free 4)
            | (refine step_append_own _ (by rfl) _ _ 31 (by rfl) w5.heap.size 33 i0 (.agg #[.int .i64 0, .int .i64 0]) 2 16 Try.underlying31 hi hz0 hz1 hz2 rfl (by decide) v6 _ _ (by rfl) hO _ 1 1 [.int .i64 x, .int .i64 r] (by rfl) rfl (World.news_of_block (cs := #[.int .i64 x, .int .i64 r]) (t := 33) (fr := (0, 0)) (lit_keep_drew hbn (by simp))) (by intro u hu; simp at hu; rcases hu with rfl | rfl <;> rfl) (show _ from h63) (show _ from h64) hb56.size ?_; intro v7 w7 hown hgrow; have hne9 := fun (g : Nat) (hg : g < w5.heap.size) => (show some g ≠ v6.ownBlock from fun e => by have := (World.ownsRow.lt hO g e.symm).1; omega); have kS7 := (kS6).grown hgrow (hne9 _ kS2.lt); have kZ7 := (kZ6).grown hgrow (hne9 _ kZ2.lt); have hb7 := (hb6).grown hgrow (by have := hb6.size; simp; omega) (fun g hg => Nat.le_trans hb2.size (World.ownsRow.lt hO g hg).1); have hO7 := own_snocD' hown; clear hown hgrow; obtain ⟨o7, c7, rfl⟩ := snoc_shape hO7; have s4 := kS7.cell 4 (.slice fo F.length fc) rfl; have f4 := kS7.free 4)
            | fail)
          all_goals
            have kS8 : Blk _ w.heap.size #[.int .i64 N, .slice oa R.length cap, .int .i64 m, .int .i64 ((k : Int) + 1), .slice o7 (F.length + 1) c7, .int .i64 (t + 1)] 50 := kS7.set 4 (.slice o7 (F.length + 1) c7)
            have kZ8 := kZ7.far ⟨w.heap.size, 4, none⟩ (.slice o7 (F.length + 1) c7) (by simp)
            have hb8 := Below.setCell (p := (⟨w.heap.size, 4, none⟩ : Addr)) hb7 (Nat.le_refl _) (.slice o7 (F.length + 1) c7)
            have hn7 : ∀ g, g < w5.heap.size → (Value.slice o7 (F.length + 1) c7).ownBlock ≠ some g := fun g hg e => by have := (World.ownsRow.lt hO7 g e).1; omega
            have hs5 := kS2.lt
            have hz5 := kZ2.lt
            have hO8 := hO7.set_ne 4 (.slice o7 (F.length + 1) c7) (hn7 _ hs5)
            have s0 := kS8.cell 0 (.int .i64 N) rfl
            have s1 := kS8.cell 1 (.slice oa R.length cap) rfl
            have s2 := kS8.cell 2 (.int .i64 m) rfl
            have s3 := kS8.cell 3 (.int .i64 ((k : Int) + 1)) rfl
            have s4 := kS8.cell 4 (.slice o7 (F.length + 1) c7) rfl
            have s5 := kS8.cell 5 (.int .i64 (t + 1)) rfl
            have z0 := kZ8.cell 0 (.int .i64 0) rfl
            have z1 := kZ8.cell 1 (.slice none 0 0) rfl
            have z2 := kZ8.cell 2 (.int .i64 0) rfl
            have z3 := kZ8.cell 3 (.int .i64 0) rfl
            have z4 := kZ8.cell 4 (.slice none 0 0) rfl
            have z5 := kZ8.cell 5 (.int .i64 0) rfl
            have f0 := kZ8.free 0
            have f1 := kZ8.free 1
            have f2 := kZ8.free 2
            have f3 := kZ8.free 3
            have f4 := kZ8.free 4
            have f5 := kZ8.free 5
            go_wp2
            refine bodyPost_ret (v := .agg #[.int .i64 N, .slice oa R.length cap, .int .i64 m, .int .i64 ((k : Int) + 1), .slice o7 (F.length + 1) c7, .int .i64 (t + 1)]) (by simp [results, Try.results99, go_sem, z0, z1, z2, z3, z4, z5]) rfl ?_
            rw [HV.out]
            have hl9 : (F ++ [(x, r)]).length = F.length + 1 := by simp
            refine ⟨o7, c7, ?_, ?_, ?_, bel_set6 hb8 (Nat.le_succ _) _ _ _ _ _ _⟩
            · show Ending.returned _ = Ending.returned (.agg #[.int .i64 N, .slice oa R.length cap, .int .i64 m, .int .i64 ((k : Int) + 1), .slice o7 (F ++ [(x, r)]).length c7, .int .i64 (t + 1)])
              rw [hl9]
            · show OwnD _ B (.slice o7 (F ++ [(x, r)]).length c7) (F ++ [(x, r)])
              rw [hl9]
              exact OwnD.set6 (hO8.based hbase) (hn7 _ hz5) _ _ _ _ _ _
            · show Fresh w _ (.slice o7 (F ++ [(x, r)]).length c7)
              rw [hl9]
              exact .inr (fun g hg => Nat.le_trans hb2.size (World.ownsRow.lt hO7 g hg).1)
  · refine Calls.mono (Ans.eqb (c_has _ _ hr64 _) h1) ?_
    rintro e w3 ⟨rfl, hbn⟩
    replace kS2 := kS2.keep hbn
    replace kZ2 := kZ2.keep hbn
    replace hF2 := hF2.keep hbn
    replace hb2 := bel_to hb2 hbn
    have HV : Hid (z = (F, t)) := by show z = (F, t); rw [HZ.out, h1]; rfl
    clear hbn d0 d1 s3 s3' f3' kD2
    have s0 := kS2.cell 0 (.int .i64 N) rfl
    have s1 := kS2.cell 1 (.slice oa R.length cap) rfl
    have s2 := kS2.cell 2 (.int .i64 m) rfl
    have s3 := kS2.cell 3 (.int .i64 ((k : Int) + 1)) rfl
    have s4 := kS2.cell 4 (.slice fo F.length fc) rfl
    have s5 := kS2.cell 5 (.int .i64 t) rfl
    have z0 := kZ2.cell 0 (.int .i64 0) rfl
    have z1 := kZ2.cell 1 (.slice none 0 0) rfl
    have z2 := kZ2.cell 2 (.int .i64 0) rfl
    have z3 := kZ2.cell 3 (.int .i64 0) rfl
    have z4 := kZ2.cell 4 (.slice none 0 0) rfl
    have z5 := kZ2.cell 5 (.int .i64 0) rfl
    have f0 := kZ2.free 0
    have f1 := kZ2.free 1
    have f2 := kZ2.free 2
    have f3 := kZ2.free 3
    have f4 := kZ2.free 4
    have f5 := kZ2.free 5
    go_wp2
    refine bodyPost_ret (v := .agg #[.int .i64 N, .slice oa R.length cap, .int .i64 m, .int .i64 ((k : Int) + 1), .slice fo F.length fc, .int .i64 t]) (by simp [results, Try.results99, go_sem, z0, z1, z2, z3, z4, z5]) rfl ?_
    rw [HV.out]
    exact ⟨fo, fc, rfl, OwnD.set6 hF2 hFn.2 _ _ _ _ _ _, Fresh.self _ _, bel_set6 hb2 (Nat.le_succ _) _ _ _ _ _ _⟩
end Go.Proofs.Ytkanbnbofoabeaa
namespace Go.Proofs.Ytkanbnbofoabeaa
open Go.RowKit
set_option linter.unusedVariables false
set_option maxRecDepth 100000

def rowForF (N : Nat) (x v : Int) : List Int := (List.range N).map fun (c : Nat) => if hasc x c then 0 else v
theorem rowFor_len (N : Nat) (x v : Int) : (rowForF N x v).length = N := by simp [rowForF]
theorem rowFor_nth {N : Nat} {x v : Int} {j : Nat} (h : j < N) : nth (rowForF N x v) j = if hasc x j then 0 else v := by simp [nth, rowForF, List.getD, h]
set_option maxHeartbeats 800000 in
theorem c_rowFor (N : Nat) (hN : N ≤ 5) (x v : Int) (w : World) :
    Calls Try.prog 69 #[.int .i64 N, .int .i64 x, .int .i64 v] w fun e w' => ∃ o c, e = .returned (.slice o N c) ∧ OwnI w' w.heap.size (.slice o N c) (rowForF N x v) ∧ Below w.heap.size w w' := by
  obtain ⟨i0, hi, hz0, hz1, hz2⟩ := info_parts info_int
  go_enter Try.func69, Try.ntmps69
  go_wp2_with (first | (at_make; refine wpList_make_full _ rfl _ _ 69 rfl w.heap.size 3 i0 (.int .i64 0) 1 Try.underlying69 hi hz0 hz1 .i64 .i64 _ _ N rfl rfl rfl rfl (by rw [hz2]; omega) (by unfold maxLen; omega) (Nat.le_refl _) ?_; intro w1 hown hgrow))
  have hI := ownI_made hown
  have hb1 : Below w.heap.size w w1 := below_grown hgrow (Nat.le_refl _) (by simp)
  clear hown hgrow hi hz0 hz1 hz2 i0
  go_loopw [13] (fun i wr => ∃ (k : Nat) (L : List Int), i = .int .i64 k ∧ k ≤ N ∧ L.length = N ∧ (∀ j, j < k → nth L j = if hasc x j then 0 else v) ∧ (∀ j, k ≤ j → j < N → nth L j = 0) ∧ OwnI wr w.heap.size (.slice (some ⟨w.heap.size, 0, none⟩) N N) L ∧ Below w.heap.size w wr) (fun i _ => N - (intOf i).toNat)
  case atStart => exact ⟨0, List.replicate N 0, rfl, Nat.zero_le _, by simp, fun j hj => absurd hj (by omega), fun j _ hj => by simp [nth, List.getD, hj], hI, hb1⟩
  case round =>
    clear hI hb1
    obtain ⟨k, L, rfl, hk, hL, hlo, hhi, hI, hb⟩ := hrel
    have HL : Hid (L.length = N) := hL
    have HLo : Hid (∀ j, j < k → nth L j = if hasc x j then 0 else v) := hlo
    have HHi : Hid (∀ j, k ≤ j → j < N → nth L j = 0) := hhi
    clear hL hlo hhi
    by_cases hlt : k < N
    · have hk64 : 0 ≤ (k : Int) ∧ (k : Int) < 64 := by omega
      cases h1 : hasc x (k : Int)
      · go_wp2_with fail
        refine Calls.mono (Ans.eqb (c_has _ _ hk64 _) h1) ?_
        rintro e w2 ⟨rfl, hbn⟩
        replace hI := hI.keep hbn
        replace hb := bel_to hb hbn
        obtain ⟨hg1, hg2⟩ := hI.cell HL.out.symm k hlt
        have HI2 := (show Hid _ from hI.store HL.out.symm k v)
        have HB2 := (show Hid _ from Below.setCell (p := (⟨w.heap.size, k, none⟩ : Addr)) hb (Nat.le_refl _) (.int .i64 v))
        clear hI hb hbn
        go_wp2
        go_roundw
        case rel =>
          refine ⟨k + 1, L.set k v, by go_num, by omega, by rw [List.length_set]; exact HL.out, lt_step (fun j hj => ?_) ?_, fun j hj1 hj2 => ?_, HI2.out, HB2.out⟩
          · rw [nth_set (by have := HL.out; omega), if_neg (by omega)]; exact HLo.out j hj
          · rw [nth_set (by have := HL.out; omega), if_pos rfl, h1]; rfl
          · rw [nth_set (by have := HL.out; omega), if_neg (by omega)]; exact HHi.out j (by omega) hj2
        case measure => simp [intOf]; omega
      · go_wp2_with fail
        refine Calls.mono (Ans.eqb (c_has _ _ hk64 _) h1) ?_
        rintro e w2 ⟨rfl, hbn⟩
        replace hI := hI.keep hbn
        replace hb := bel_to hb hbn
        clear hbn
        go_wp2
        go_roundw
        case rel => exact ⟨k + 1, L, by go_num, by omega, HL.out, lt_step HLo.out (by rw [HHi.out k (Nat.le_refl _) hlt, h1]; rfl), fun j hj1 hj2 => HHi.out j (by omega) hj2, hI, hb⟩
        case measure => simp [intOf]; omega
    · have hkk : k = N := by omega
      have HE : Hid (L = rowForF N x v) := list_ext (by rw [rowFor_len]; exact HL.out) fun j hj => by
        have h := HL.out
        rw [rowFor_nth (by omega)]
        exact HLo.out j (by omega)
      clear hkk
      go_wp2
      go_ret
      exact ⟨_, _, rfl, by rw [← HE.out]; exact hI, hb⟩
theorem madeI (N : Nat) : (madeCells (Value.cells (.int .i64 0)) (N * 1)).toList = (List.replicate N (0 : Int)).map encI := by
  rw [Nat.mul_one]
  have : (Value.cells (.int .i64 0)) = #[Value.int .i64 0] := rfl
  rw [this, toList_madeCells_one, List.map_replicate]; rfl
theorem apart_lit {v : Value} {g n c : Nat} (h : v.ownBlock ≠ some g) : Apart (.slice (some ⟨g, 0, none⟩) n c) v := Or.inr fun e => h e.symm
/-- Two rows of the call's own, in a slice of their own. -/
theorem two_rows {w : World} {B g : Nat} {oA oB : Option Addr} {n cA cB : Nat} {L M : List Int} (hA : OwnI w B (.slice oA n cA) L) (hB : OwnI w B (.slice oB n cB) M) (hl : L.length = n) (hm : M.length = n) (hap : Apart (.slice oA n cA) (.slice oB n cB))
    (hO : w.ownsRow B 69 1 (.slice (some ⟨g, 0, none⟩) 2 2) 2 [.slice oA n cA, .slice oB n cB]) (hgA : (Value.slice oA n cA).ownBlock ≠ some g) (hgB : (Value.slice oB n cB).ownBlock ≠ some g) : OwnRows w B (.slice (some ⟨g, 0, none⟩) 2 2) [.slice oA n cA, .slice oB n cB] [L, M] := by
  subst hl
  refine ⟨rfl, hO, fun j hj => ?_, fun i j hij hj u u' hu hu' => ?_⟩
  · match j, hj with
    | 0, _ => exact ⟨oA, cA, rfl, hA, apart_lit hgA⟩
    | 1, _ =>
      have e : row [L, M] 1 = M := rfl
      rw [e, hm]
      exact ⟨oB, cB, rfl, hB, apart_lit hgB⟩
  · match i, j, hij, hj with
    | 0, 1, _, _ => simp at hu hu'; subst hu hu'; exact hap
    | 0, 0, h, _ => omega
    | 1, 1, h, _ => omega
    | 1, 0, h, _ => omega
end Go.Proofs.Ytkanbnbofoabeaa
namespace Go.Proofs.Ytkanbnbofoabeaa
open Go.RowKit
set_option linter.unusedVariables false
set_option maxRecDepth 100000

def ctrF (n : Int) (D : List (Int × Int)) (l r : Int) : Bool := areDepsF n D && (isDepF n l r && !impF D l r)
def ctrR (N : Nat) (D : List (Int × Int)) (l : Int) : List (List Int) := [List.replicate N 0, rowForF N (cloF D l) 1]
theorem bel_set2 {w0 w : World} {B : Nat} (h : Below B w0 w) {k : Nat} (hk : B ≤ k) (b0 b1 : Value) : Below B w0 ((w.setCell ⟨k, 0, none⟩ b0).setCell ⟨k, 1, none⟩ b1) :=
  Below.setCell (p := ⟨k, 1, none⟩) (Below.setCell (p := ⟨k, 0, none⟩) h hk b0) hk b1
set_option maxHeartbeats 800000 in
theorem c_CounterTable_no (n : Int) (oa) (cap : Nat) (D : List (Int × Int)) (l r : Int) (w : World) (hD : DepsAt w oa D) (h : ctrF n D l r = false) :
    Ans Try.prog 20 #[.int .i64 n, .slice oa D.length cap, .agg #[.int .i64 l, .int .i64 r]] w (.tuple #[.agg #[.int .i64 0, .slice none 0 0], .bool false]) := by
  unfold Ans
  have hb := bel2 w (.cells #[.int .i64 l, .int .i64 r] 33) (.cells #[.int .i64 0, .slice none 0 0] 28)
  have kD := (Blk.new w #[.int .i64 l, .int .i64 r] 33).alloc (.cells #[.int .i64 0, .slice none 0 0] 28)
  have kZ := Blk.new (w.alloc (.cells #[.int .i64 l, .int .i64 r] 33)) #[.int .i64 0, .slice none 0 0] 28
  simp only [World.size_alloc] at kZ
  cases ha : areDepsF n D
  · go_enter Try.func20, Try.ntmps20
    go_wp2_with fail
    refine Calls.mono (Ans.eqb (c_AreDeps _ _ _ _ _ (hD.keep hb)) ha) ?_
    rintro e w1 ⟨rfl, hbn⟩
    replace kZ := kZ.keep hbn
    replace hb := bel_to hb hbn
    clear hbn kD
    have z0 := kZ.cell 0 (.int .i64 0) rfl
    have z1 := kZ.cell 1 (.slice none 0 0) rfl
    have f0 := kZ.free 0
    have f1 := kZ.free 1
    go_wp2
    exact bodyPost_ret (v := .tuple #[.agg #[.int .i64 0, .slice none 0 0], .bool false]) (by simp [results, Try.results20, go_sem, z0, z1]) rfl ⟨rfl, bel_set2 hb (Nat.le_succ _) _ _⟩
  · have hv := (areDepsF_val ha).1
    cases hi : isDepF n l r
    · go_enter Try.func20, Try.ntmps20
      go_wp2_with fail
      refine Calls.mono (Ans.eqb (c_AreDeps _ _ _ _ _ (hD.keep hb)) ha) ?_
      rintro e w1 ⟨rfl, hbn⟩
      replace kZ := kZ.keep hbn
      replace kD := kD.keep hbn
      replace hb := bel_to hb hbn
      clear hbn
      have d0 := kD.cell 0 (.int .i64 l) rfl
      have d1 := kD.cell 1 (.int .i64 r) rfl
      go_wp2_with fail
      refine Calls.mono (Ans.eqb (c_isDep _ _ _ _) hi) ?_
      rintro e w2 ⟨rfl, hbn⟩
      replace kZ := kZ.keep hbn
      replace hb := bel_to hb hbn
      clear hbn d0 d1 kD
      have z0 := kZ.cell 0 (.int .i64 0) rfl
      have z1 := kZ.cell 1 (.slice none 0 0) rfl
      have f0 := kZ.free 0
      have f1 := kZ.free 1
      go_wp2
      exact bodyPost_ret (v := .tuple #[.agg #[.int .i64 0, .slice none 0 0], .bool false]) (by simp [results, Try.results20, go_sem, z0, z1]) rfl ⟨rfl, bel_set2 hb (Nat.le_succ _) _ _⟩
    · obtain ⟨⟨hl, hr⟩, h15⟩ := isDepF_val hi
      have hp : impF D l r = true := by unfold ctrF at h; rw [ha, hi] at h; simpa using h
      go_enter Try.func20, Try.ntmps20
      go_wp2_with fail
      refine Calls.mono (Ans.eqb (c_AreDeps _ _ _ _ _ (hD.keep hb)) ha) ?_
      rintro e w1 ⟨rfl, hbn⟩
      replace kZ := kZ.keep hbn
      replace kD := kD.keep hbn
      replace hb := bel_to hb hbn
      clear hbn
      have d0 := kD.cell 0 (.int .i64 l) rfl
      have d1 := kD.cell 1 (.int .i64 r) rfl
      go_wp2_with fail
      refine Calls.mono (Ans.eqb (c_isDep _ _ _ _) hi) ?_
      rintro e w2 ⟨rfl, hbn⟩
      replace kZ := kZ.keep hbn
      replace kD := kD.keep hbn
      replace hb := bel_to hb hbn
      clear hbn d0 d1
      have d0 := kD.cell 0 (.int .i64 l) rfl
      have d1 := kD.cell 1 (.int .i64 r) rfl
      go_wp2_with fail
      refine Calls.mono (Ans.eqb (c_implies _ _ _ _ _ _ (hD.keep hb) hv hl hr) hp) ?_
      rintro e w3 ⟨rfl, hbn⟩
      replace kZ := kZ.keep hbn
      replace hb := bel_to hb hbn
      clear hbn d0 d1 kD
      have z0 := kZ.cell 0 (.int .i64 0) rfl
      have z1 := kZ.cell 1 (.slice none 0 0) rfl
      have f0 := kZ.free 0
      have f1 := kZ.free 1
      go_wp2
      exact bodyPost_ret (v := .tuple #[.agg #[.int .i64 0, .slice none 0 0], .bool false]) (by simp [results, Try.results20, go_sem, z0, z1]) rfl ⟨rfl, bel_set2 hb (Nat.le_succ _) _ _⟩
theorem ctr_made (w3 : World) (N : Nat) (hN : N ≤ 5) : OwnI (w3.alloc (.cells (madeCells #[Value.int .i64 0] N) 3)) w3.heap.size (.slice (some ⟨w3.heap.size, 0, none⟩) N N) (List.replicate N 0) :=
  ownI_made (by simpa [Value.cells] using World.ownsRow_lit w3 (madeCells #[Value.int .i64 0] N) N (Nat.le_refl _) (by unfold maxLen; omega) (by simp [size_madeCells]))
theorem ctr_end {w w3 W : World} {N m : Nat} {o5 : Option Addr} {c5 : Nat} {cl : Int} (hb : Below w.heap.size w w3) (kZ : Blk w3 (w.heap.size + 1) #[.int .i64 0, .slice none 0 0] 28) (h35 : Below w3.heap.size w3 W)
    (hM5 : OwnI W w3.heap.size (.slice (some ⟨m, 0, none⟩) N N) (List.replicate N 0)) (hI6 : OwnI W w3.heap.size (.slice o5 N c5) (rowForF N cl 1)) (hap : Apart (.slice (some ⟨m, 0, none⟩) N N) (.slice o5 N c5)) (W' : World)
    (hW : W' = (((W.alloc (.cells #[Value.slice (some ⟨m, 0, none⟩) N N, Value.slice o5 N c5] 69)).setCell ⟨w.heap.size + 1, 0, none⟩ (.int .i64 N)).setCell ⟨w.heap.size + 1, 1, none⟩ (.slice (some ⟨W.heap.size, 0, none⟩) 2 2))) :
    OwnRows W' w.heap.size (.slice (some ⟨W.heap.size, 0, none⟩) 2 2) [.slice (some ⟨m, 0, none⟩) N N, .slice o5 N c5] [List.replicate N 0, rowForF N cl 1] ∧ Below w.heap.size w W' ∧ W'.cell? ⟨w.heap.size + 1, 0, none⟩ = some (.int .i64 N) ∧ W'.cell? ⟨w.heap.size + 1, 1, none⟩ = some (.slice (some ⟨W.heap.size, 0, none⟩) 2 2) := by
  have hnA : (Value.slice (some ⟨m, 0, none⟩) N N).ownBlock ≠ some W.heap.size := fun e => by have := (World.ownsRow.lt hM5 _ e).2; omega
  have hnB : (Value.slice o5 N c5).ownBlock ≠ some W.heap.size := fun e => by have := (World.ownsRow.lt hI6 _ e).2; omega
  have hba := (Below.refl W.heap.size W).alloc (Nat.le_refl _) (.cells #[Value.slice (some ⟨m, 0, none⟩) N N, Value.slice o5 N c5] 69)
  have hR := two_rows (hM5.keep hba) (hI6.keep hba) (by simp) (rowFor_len _ _ _) hap (World.ownsRow_lit W #[Value.slice (some ⟨m, 0, none⟩) N N, Value.slice o5 N c5] 2 h35.size (by decide) rfl) hnA hnB
  have hk3 : w.heap.size + 1 < w3.heap.size := kZ.lt
  have hR2 := (hR.far_set 0 (.int .i64 N) hk3).far_set 1 (.slice (some ⟨W.heap.size, 0, none⟩) 2 2) hk3
  have hB2 := bel_set2 (bel_to (bel_to hb h35) hba) (k := w.heap.size + 1) (Nat.le_succ _) (.int .i64 N) (.slice (some ⟨W.heap.size, 0, none⟩) 2 2)
  have kZ6 : Blk _ (w.heap.size + 1) #[.int .i64 N, .slice none 0 0] 28 := ((kZ.keep h35).keep hba).set 0 (.int .i64 N)
  have kZ7 : Blk _ (w.heap.size + 1) #[.int .i64 N, .slice (some ⟨W.heap.size, 0, none⟩) 2 2] 28 := kZ6.set 1 (.slice (some ⟨W.heap.size, 0, none⟩) 2 2)
  subst hW
  exact ⟨hR2.based (by omega), hB2, kZ7.cell 0 (.int .i64 N) rfl, kZ7.cell 1 (.slice (some ⟨W.heap.size, 0, none⟩) 2 2) rfl⟩
set_option maxHeartbeats 1600000 in
theorem c_CounterTable_ok (N : Nat) (oa) (cap : Nat) (D : List (Int × Int)) (l r : Int) (w : World) (hD : DepsAt w oa D) (h : ctrF N D l r = true) :
    Calls Try.prog 20 #[.int .i64 N, .slice oa D.length cap, .agg #[.int .i64 l, .int .i64 r]] w fun e w' => ∃ o c xs, e = .returned (.tuple #[.agg #[.int .i64 N, .slice o 2 c], .bool true]) ∧ OwnRows w' w.heap.size (.slice o 2 c) xs (ctrR N D l) ∧ Below w.heap.size w w' := by
  have hb := bel2 w (.cells #[.int .i64 l, .int .i64 r] 33) (.cells #[.int .i64 0, .slice none 0 0] 28)
  have kD := (Blk.new w #[.int .i64 l, .int .i64 r] 33).alloc (.cells #[.int .i64 0, .slice none 0 0] 28)
  have kZ := Blk.new (w.alloc (.cells #[.int .i64 l, .int .i64 r] 33)) #[.int .i64 0, .slice none 0 0] 28
  simp only [World.size_alloc] at kZ
  unfold ctrF at h
  simp only [Bool.and_eq_true, Bool.not_eq_true'] at h
  obtain ⟨ha, hi, hp⟩ := h
  have hv := (areDepsF_val ha).1
  obtain ⟨⟨hl, hr⟩, h15⟩ := isDepF_val hi
  have hN : N ≤ 5 := by omega
  obtain ⟨i0, hii, hz0, hz1, hz2⟩ := info_parts info_int
  go_enter Try.func20, Try.ntmps20
  go_wp2_with fail
  refine Calls.mono (Ans.eqb (c_AreDeps _ _ _ _ _ (hD.keep hb)) ha) ?_
  rintro e w1 ⟨rfl, hbn⟩
  replace kZ := kZ.keep hbn
  replace kD := kD.keep hbn
  replace hb := bel_to hb hbn
  clear hbn
  have d0 := kD.cell 0 (.int .i64 l) rfl
  have d1 := kD.cell 1 (.int .i64 r) rfl
  go_wp2_with fail
  refine Calls.mono (Ans.eqb (c_isDep _ _ _ _) hi) ?_
  rintro e w2 ⟨rfl, hbn⟩
  replace kZ := kZ.keep hbn
  replace kD := kD.keep hbn
  replace hb := bel_to hb hbn
  clear hbn d0 d1
  have d0 := kD.cell 0 (.int .i64 l) rfl
  have d1 := kD.cell 1 (.int .i64 r) rfl
  go_wp2_with fail
  refine Calls.mono (Ans.eqb (c_implies _ _ _ _ _ _ (hD.keep hb) hv hl hr) hp) ?_
  rintro e w3 ⟨rfl, hbn⟩
  replace kZ := kZ.keep hbn
  replace kD := kD.keep hbn
  replace hb := bel_to hb hbn
  clear hbn d0 d1
  have hmk : ∀ w' : World, (Instr.makeSlice 69 (.int .i64 N) (.int .i64 N)).run Try.prog w' = .ok (.slice (some ⟨w'.heap.size, 0, none⟩) N N) (w'.alloc (.cells (madeCells #[Value.int .i64 0] N) 3)) := fun w' => by
    have := run_make w' 69 3 i0 (.int .i64 0) Try.underlying69 hii hz0 .i64 .i64 N N (by omega) (by omega) (by rw [hz2]; omega) (by omega)
    rw [hz1] at this; simpa [Value.cells] using this
  have d0 := kD.cell 0 (.int .i64 l) rfl
  have d0b : (w3.alloc (.cells (madeCells #[Value.int .i64 0] N) 3)).cell? ⟨w.heap.size, 0, none⟩ = some (.int .i64 l) := (kD.alloc _).cell 0 _ rfl
  go_wp2_with fail
  go_region_law (first
    | (go_simp; refine (c_closure oa cap D l _ (hD.keep (by first | exact hb.drew | exact (hb.alloc hb.size _).drew)) hl hv).mono ?_; rintro e w4 ⟨rfl, hbn4⟩; have h34 := bel_to (w := w3) (by first | exact (Below.refl _ _).drew | exact ((Below.refl _ _).alloc (Nat.le_refl _) _).drew) hbn4)
    | (go_simp; refine (c_rowFor N hN _ 1 _).mono ?_; rintro e w5 ⟨o5, c5, rfl, hI5, hb5⟩; have h45 := bel_to (w := w4) (by first | exact (Below.refl _ _) | exact (Below.refl _ _).drew | exact (Below.refl _ _).alloc (Nat.le_refl _) _ | exact ((Below.refl _ _).alloc (Nat.le_refl _) _).drew) hb5; have kZ5 := (kZ.keep h34).keep h45; have q0 := fun c T => (kZ5.alloc (.cells c T)).cell 0 (.int .i64 0) rfl; have q1 := fun c T => (kZ5.alloc (.cells c T)).cell 1 (.slice none 0 0) rfl; have g0 := fun c T => (kZ5.alloc (.cells c T)).free 0; have g1 := fun c T => (kZ5.alloc (.cells c T)).free 1; have qq0 := fun c T c' T' => ((kZ5.alloc (.cells c T)).alloc (.cells c' T')).cell 0 (.int .i64 0) rfl; have qq1 := fun c T c' T' => ((kZ5.alloc (.cells c T)).alloc (.cells c' T')).cell 1 (.slice none 0 0) rfl; have gg0 := fun c T c' T' => ((kZ5.alloc (.cells c T)).alloc (.cells c' T')).free 0; have gg1 := fun c T c' T' => ((kZ5.alloc (.cells c T)).alloc (.cells c' T')).free 1))
  all_goals
    obtain ⟨hR3, hB2, z0, z1⟩ : _ ∧ _ ∧ _ ∧ _ := by
      first
        | exact ctr_end hb kZ (bel_to h34 h45) ((OwnI.keep (w := (w3.alloc (.cells (madeCells #[Value.int .i64 0] N) 3)).drew) (ctr_made w3 N hN) hbn4).keep h45) (hI5.based h34.size) (apart_old (OwnI.keep (w := (w3.alloc (.cells (madeCells #[Value.int .i64 0] N) 3)).drew) (ctr_made w3 N hN) hbn4) hI5) _ rfl
        | exact ctr_end hb kZ (bel_to h34 h45) (OwnI.based ((ctr_made w4 N hN).keep hb5) h34.size) (hI5.based (Nat.le_trans h34.size (by simp))) (apart_old (ctr_made w4 N hN) hI5) _ rfl
        | exact ctr_end hb kZ (bel_to (bel_to h34 h45) ((Below.refl _ _).alloc (Nat.le_refl _) _)) ((ctr_made w5 N hN).based (bel_to h34 h45).size) (OwnI.keep (hI5.based h34.size) ((Below.refl _ _).alloc (Nat.le_refl _) _)) (Apart.symm (apart_old hI5 (ctr_made w5 N hN))) _ rfl
    clear hD hmk d0 d0b q0 q1 g0 g1 qq0 qq1 gg0 gg1 hb5 h45 hI5 kZ5 kZ kD hbn4 h34
    try simp only [World.size_alloc] at z0 z1 hR3 hB2
    go_wp2
    first | exact bodyPost_ret (v := .tuple #[.agg #[.int .i64 N, .slice (some ⟨w5.heap.size, 0, none⟩) 2 2], .bool true]) (by simp [results, Try.results20, go_sem, z0, z1]) rfl ⟨_, _, _, rfl, hR3, hB2⟩ | exact bodyPost_ret (v := .tuple #[.agg #[.int .i64 N, .slice (some ⟨w5.heap.size + 1, 0, none⟩) 2 2], .bool true]) (by simp [results, Try.results20, go_sem, z0, z1]) rfl ⟨_, _, _, rfl, hR3, hB2⟩
end Go.Proofs.Ytkanbnbofoabeaa
namespace Go.Proofs.Ytkanbnbofoabeaa
open Go.RowKit
set_option linter.unusedVariables false
set_option maxRecDepth 100000

theorem rowFor_succ (k : Nat) (x v : Int) : rowForF (k + 1) x v = rowForF k x v ++ [if hasc x k then 0 else v] := by unfold rowForF; rw [List.range_succ, List.map_append]; rfl
theorem row_bit {x : Int} (hx : St x) {k : Nat} (hk : k < 5) : bits BinOp.and .i64 (x / 2 ^ k) 1 = if hasc x k then 1 else 0 := by
  obtain ⟨n, hn, rfl⟩ := st_nat hx
  have h : ∀ n < 32, ∀ k < 5, bits BinOp.and .i64 ((n : Nat) / 2 ^ k) 1 = if hasc (n : Nat) (k : Nat) then 1 else 0 := by decide +kernel
  exact h n hn k hk
set_option maxHeartbeats 800000 in
theorem c_specCounterTable_no (n : Int) (oa) (cap : Nat) (D : List (Int × Int)) (l r : Int) (w : World) (hD : DepsAt w oa D) (h : ctrF n D l r = false) :
    Ans Try.prog 17 #[.int .i64 n, .slice oa D.length cap, .agg #[.int .i64 l, .int .i64 r]] w (.tuple #[.agg #[.int .i64 0, .slice none 0 0], .bool false]) := by
  unfold Ans
  have hb := bel2 w (.cells #[.int .i64 l, .int .i64 r] 33) (.cells #[.int .i64 0, .slice none 0 0] 28)
  have kD := (Blk.new w #[.int .i64 l, .int .i64 r] 33).alloc (.cells #[.int .i64 0, .slice none 0 0] 28)
  have kZ := Blk.new (w.alloc (.cells #[.int .i64 l, .int .i64 r] 33)) #[.int .i64 0, .slice none 0 0] 28
  simp only [World.size_alloc] at kZ
  cases ha : areDepsF n D
  · go_enter Try.func17, Try.ntmps17
    go_wp2_with fail
    refine Calls.mono (Ans.eqb (c_specAreDeps _ _ _ _ _ (hD.keep hb)) ha) ?_
    rintro e w1 ⟨rfl, hbn⟩
    replace kZ := kZ.keep hbn
    replace hb := bel_to hb hbn
    clear hbn kD
    have z0 := kZ.cell 0 (.int .i64 0) rfl
    have z1 := kZ.cell 1 (.slice none 0 0) rfl
    have f0 := kZ.free 0
    have f1 := kZ.free 1
    go_wp2
    exact bodyPost_ret (v := .tuple #[.agg #[.int .i64 0, .slice none 0 0], .bool false]) (by simp [results, Try.results17, go_sem, z0, z1]) rfl ⟨rfl, bel_set2 hb (Nat.le_succ _) _ _⟩
  · have hv := (areDepsF_val ha).1
    cases hi : isDepF n l r
    · go_enter Try.func17, Try.ntmps17
      go_wp2_with fail
      refine Calls.mono (Ans.eqb (c_specAreDeps _ _ _ _ _ (hD.keep hb)) ha) ?_
      rintro e w1 ⟨rfl, hbn⟩
      replace kZ := kZ.keep hbn
      replace kD := kD.keep hbn
      replace hb := bel_to hb hbn
      clear hbn
      have d0 := kD.cell 0 (.int .i64 l) rfl
      have d1 := kD.cell 1 (.int .i64 r) rfl
      go_wp2_with fail
      refine Calls.mono (Ans.eqb (c_specIsDep _ _ _ _) hi) ?_
      rintro e w2 ⟨rfl, hbn⟩
      replace kZ := kZ.keep hbn
      replace hb := bel_to hb hbn
      clear hbn d0 d1 kD
      have z0 := kZ.cell 0 (.int .i64 0) rfl
      have z1 := kZ.cell 1 (.slice none 0 0) rfl
      have f0 := kZ.free 0
      have f1 := kZ.free 1
      go_wp2
      exact bodyPost_ret (v := .tuple #[.agg #[.int .i64 0, .slice none 0 0], .bool false]) (by simp [results, Try.results17, go_sem, z0, z1]) rfl ⟨rfl, bel_set2 hb (Nat.le_succ _) _ _⟩
    · obtain ⟨⟨hl, hr⟩, h15⟩ := isDepF_val hi
      have hp : impF D l r = true := by unfold ctrF at h; rw [ha, hi] at h; simpa using h
      go_enter Try.func17, Try.ntmps17
      go_wp2_with fail
      refine Calls.mono (Ans.eqb (c_specAreDeps _ _ _ _ _ (hD.keep hb)) ha) ?_
      rintro e w1 ⟨rfl, hbn⟩
      replace kZ := kZ.keep hbn
      replace kD := kD.keep hbn
      replace hb := bel_to hb hbn
      clear hbn
      have d0 := kD.cell 0 (.int .i64 l) rfl
      have d1 := kD.cell 1 (.int .i64 r) rfl
      go_wp2_with fail
      refine Calls.mono (Ans.eqb (c_specIsDep _ _ _ _) hi) ?_
      rintro e w2 ⟨rfl, hbn⟩
      replace kZ := kZ.keep hbn
      replace kD := kD.keep hbn
      replace hb := bel_to hb hbn
      clear hbn d0 d1
      have d0 := kD.cell 0 (.int .i64 l) rfl
      have d1 := kD.cell 1 (.int .i64 r) rfl
      go_wp2_with fail
      refine Calls.mono (Ans.eqb (c_specImpliesDep n _ _ _ _ _ _ (hD.keep hb)) (by unfold impliesDepF; rw [ha, hi, hp])) ?_
      rintro e w3 ⟨rfl, hbn⟩
      replace kZ := kZ.keep hbn
      replace hb := bel_to hb hbn
      clear hbn d0 d1 kD
      have z0 := kZ.cell 0 (.int .i64 0) rfl
      have z1 := kZ.cell 1 (.slice none 0 0) rfl
      have f0 := kZ.free 0
      have f1 := kZ.free 1
      go_wp2
      exact bodyPost_ret (v := .tuple #[.agg #[.int .i64 0, .slice none 0 0], .bool false]) (by simp [results, Try.results17, go_sem, z0, z1]) rfl ⟨rfl, bel_set2 hb (Nat.le_succ _) _ _⟩
set_option maxHeartbeats 1600000 in
theorem c_specCounterTable_ok (N : Nat) (oa) (cap : Nat) (D : List (Int × Int)) (l r : Int) (w : World) (hD : DepsAt w oa D) (h : ctrF N D l r = true) :
    Calls Try.prog 17 #[.int .i64 N, .slice oa D.length cap, .agg #[.int .i64 l, .int .i64 r]] w fun e w' => ∃ o c xs, e = .returned (.tuple #[.agg #[.int .i64 N, .slice o 2 c], .bool true]) ∧ OwnRows w' w.heap.size (.slice o 2 c) xs (ctrR N D l) ∧ Below w.heap.size w w' := by
  have hb := bel2 w (.cells #[.int .i64 l, .int .i64 r] 33) (.cells #[.int .i64 0, .slice none 0 0] 28)
  have kD := (Blk.new w #[.int .i64 l, .int .i64 r] 33).alloc (.cells #[.int .i64 0, .slice none 0 0] 28)
  have kZ := Blk.new (w.alloc (.cells #[.int .i64 l, .int .i64 r] 33)) #[.int .i64 0, .slice none 0 0] 28
  simp only [World.size_alloc] at kZ
  unfold ctrF at h
  simp only [Bool.and_eq_true, Bool.not_eq_true'] at h
  obtain ⟨ha, hi, hp⟩ := h
  have hv := (areDepsF_val ha).1
  obtain ⟨⟨hl, hr⟩, h15⟩ := isDepF_val hi
  have hN : N ≤ 5 := by omega
  obtain ⟨i0, hi0, hz0, hz1, hz2⟩ := info_parts info_int
  go_enter Try.func17, Try.ntmps17
  go_wp2_with fail
  refine Calls.mono (Ans.eqb (c_specAreDeps _ _ _ _ _ (hD.keep hb)) ha) ?_
  rintro e w1 ⟨rfl, hbn⟩
  replace kZ := kZ.keep hbn
  replace kD := kD.keep hbn
  replace hb := bel_to hb hbn
  clear hbn
  have d0 := kD.cell 0 (.int .i64 l) rfl
  have d1 := kD.cell 1 (.int .i64 r) rfl
  go_wp2_with fail
  refine Calls.mono (Ans.eqb (c_specIsDep _ _ _ _) hi) ?_
  rintro e w2 ⟨rfl, hbn⟩
  replace kZ := kZ.keep hbn
  replace kD := kD.keep hbn
  replace hb := bel_to hb hbn
  clear hbn d0 d1
  have d0 := kD.cell 0 (.int .i64 l) rfl
  have d1 := kD.cell 1 (.int .i64 r) rfl
  go_wp2_with fail
  refine Calls.mono (Ans.eqb (c_specImpliesDep N _ _ _ _ _ _ (hD.keep hb)) (by unfold impliesDepF; rw [ha, hi, hp])) ?_
  rintro e w3 ⟨rfl, hbn⟩
  replace kZ := kZ.keep hbn
  replace kD := kD.keep hbn
  replace hb := bel_to hb hbn
  clear hbn d0 d1
  have d0 := kD.cell 0 (.int .i64 l) rfl
  go_wp2_with fail
  refine (c_l10Close oa cap D l _ (hD.keep hb) hl hv).mono ?_
  rintro e w4 ⟨rfl, hbn⟩
  replace kZ := kZ.keep hbn
  replace hb := bel_to hb hbn
  have hsx : St (cloF D l) := cloF_st hv hl
  clear hbn d0 kD hD ha hp hv hl hr
  generalize hx : cloF D l = x at *
  have HX : Hid (ctrR N D l = [List.replicate N 0, rowForF N x 1]) := by show _ = _; unfold ctrR; rw [hx]
  clear hx hi
  go_wp2
  go_loopw [9, 10] (fun v i wr => ∃ k : Nat, i = .int .i64 k ∧ k ≤ N ∧ OwnI wr w4.heap.size v (rowForF k x 1) ∧ Below w4.heap.size w4 wr) (fun _ i _ => N - (intOf i).toNat)
  case atStart => exact ⟨0, rfl, Nat.zero_le _, OwnI.empty _ _ (Nat.le_refl _), (Below.refl _ _).alloc (Nat.le_refl _) _⟩
  case round =>
    obtain ⟨k, rfl, hk, hI, hbl⟩ := hrel
    have hi := hi0
    by_cases hlt : k < N
    · have HS : Hid (rowForF (k + 1) x 1 = rowForF k x 1 ++ [if hasc x k then 0 else 1]) := rowFor_succ k x 1
      have hk64 : 0 ≤ (k : Int) ∧ (k : Int) < 64 := by omega
      have hbt := row_bit hsx (show k < 5 by omega)
      have hle := rowFor_len k x 1
      generalize rowForF k x 1 = L at *
      cases hh : hasc x k
      · have hbt0 : bits BinOp.and .i64 (x / 2 ^ k) 1 = 0 := by rw [hbt, hh]; rfl
        clear hbt
        go_wp2_with (first | (at_builtin; refine wpList_append_own _ rfl _ _ 69 rfl w4.heap.size 3 i0 (.int .i64 0) 1 8 Try.underlying69 hi hz0 hz1 hz2 rfl (by decide) _ _ _ rfl (World.ownsRow.alloc hI _) _ 1 1 [.int .i64 (1)] rfl rfl (by intro j u hj; match j, hj with | 0, hj => simp at hj; subst hj; simp [Addr.add]) (by intro u hu; simp at hu; subst hu; rfl) (by unfold maxLen; omega) (by omega) (by have := hbl.size; simp; omega) ?_; intro v' w1 hown hgrow _; replace hbl := (hbl.alloc hbl.size _).grown hgrow (by have := hbl.size; simp; omega) (fun g hg => (World.ownsRow.lt hI g hg).1); replace hI := OwnI.snoc hown; clear hown hgrow))
        go_roundw
        case rel => exact ⟨k + 1, by go_num, by omega, by rw [HS.out, hh]; exact hI, hbl⟩
        case measure => simp [intOf]; omega
      · have hbt0 : bits BinOp.and .i64 (x / 2 ^ k) 1 = 1 := by rw [hbt, hh]; rfl
        clear hbt
        go_wp2_with (first | (at_builtin; refine wpList_append_own _ rfl _ _ 69 rfl w4.heap.size 3 i0 (.int .i64 0) 1 8 Try.underlying69 hi hz0 hz1 hz2 rfl (by decide) _ _ _ rfl (World.ownsRow.alloc hI _) _ 1 1 [.int .i64 (0)] rfl rfl (by intro j u hj; match j, hj with | 0, hj => simp at hj; subst hj; simp [Addr.add]) (by intro u hu; simp at hu; subst hu; rfl) (by unfold maxLen; omega) (by omega) (by have := hbl.size; simp; omega) ?_; intro v' w1 hown hgrow _; replace hbl := (hbl.alloc hbl.size _).grown hgrow (by have := hbl.size; simp; omega) (fun g hg => (World.ownsRow.lt hI g hg).1); replace hI := OwnI.snoc hown; clear hown hgrow))
        go_roundw
        case rel => exact ⟨k + 1, by go_num, by omega, by rw [HS.out, hh]; exact hI, hbl⟩
        case measure => simp [intOf]; omega
    · obtain rfl : k = N := by omega
      obtain ⟨o5, c5, hv5⟩ := hI.shape
      rw [rowFor_len] at hv5
      subst hv5
      go_wp2_with (first | (at_make; refine wpList_make_full _ rfl _ _ 69 rfl wr.heap.size 3 i0 (.int .i64 0) 1 Try.underlying69 hi hz0 hz1 .i64 .i64 _ _ k rfl rfl rfl rfl (by rw [hz2]; omega) (by unfold maxLen; omega) (Nat.le_refl _) ?_; intro w1 hown hgrow; have hb1 := below_grown hgrow (Nat.le_refl _) (by simp); have kZ1 := (kZ.keep hbl).keep hb1; have q0 := fun c T => (kZ1.alloc (.cells c T)).cell 0 (.int .i64 0) rfl; have q1 := fun c T => (kZ1.alloc (.cells c T)).cell 1 (.slice none 0 0) rfl; have g0 := fun c T => (kZ1.alloc (.cells c T)).free 0; have g1 := fun c T => (kZ1.alloc (.cells c T)).free 1))
      obtain ⟨hR3, hB2, z0, z1⟩ := ctr_end hb kZ (bel_to hbl hb1) ((ownI_made hown).based hbl.size) (hI.keep hb1) (Apart.symm (apart_old hI hown)) _ rfl
      exact bodyPost_ret (v := .tuple #[.agg #[.int .i64 k, .slice (some ⟨w1.heap.size, 0, none⟩) 2 2], .bool true]) (by simp [results, Try.results17, go_sem, z0, z1]) rfl ⟨_, _, _, rfl, by rw [HX.out]; exact hR3, hB2⟩
end Go.Proofs.Ytkanbnbofoabeaa
namespace Go.Proofs.Ytkanbnbofoabeaa
open Go.RowKit
set_option linter.unusedVariables false
set_option maxRecDepth 100000

def ctrO (n : Int) (D : List (Int × Int)) (l r : Int) : List (List Int) := if ctrF n D l r then ctrR n.toNat D l else []
def ctrN (n : Int) (D : List (Int × Int)) (l r : Int) : Int := if ctrF n D l r then n else 0
def CtrAns (f : FuncId) (n : Int) (oa : Option Addr) (cap : Nat) (D : List (Int × Int)) (l r : Int) (w : World) : Prop :=
  Calls Try.prog f #[.int .i64 n, .slice oa D.length cap, .agg #[.int .i64 l, .int .i64 r]] w fun e w' => ∃ o c xs, e = .returned (.tuple #[.agg #[.int .i64 (ctrN n D l r), .slice o (ctrO n D l r).length c], .bool (ctrF n D l r)]) ∧ OwnRows w' w.heap.size (.slice o (ctrO n D l r).length c) xs (ctrO n D l r) ∧ Below w.heap.size w w'
theorem ctr_pos {n : Int} {D : List (Int × Int)} {l r : Int} (h : ctrF n D l r = true) : ∃ N : Nat, n = N ∧ N ≤ 5 := by
  unfold ctrF at h
  simp only [Bool.and_eq_true] at h
  have := (areDepsF_val h.1)
  exact ⟨n.toNat, by omega, by omega⟩
theorem ctr_len (n : Int) (D : List (Int × Int)) (l r : Int) : (ctrO n D l r).length ≤ 2 := by unfold ctrO; split <;> simp [ctrR]
theorem ctr_row (n : Int) (D : List (Int × Int)) (l r : Int) {j : Nat} (hj : j < (ctrO n D l r).length) : (row (ctrO n D l r) j).length ≤ 5 := by
  unfold ctrO at hj ⊢
  cases h : ctrF n D l r
  · rw [h] at hj; simp at hj
  · obtain ⟨N, rfl, hN⟩ := ctr_pos h
    rw [h] at hj
    simp only [if_true, ctrR, Int.toNat_natCast] at hj ⊢
    match j, hj with
    | 0, _ => show (List.replicate N (0 : Int)).length ≤ 5; simp; exact hN
    | 1, _ => show (rowForF N _ 1).length ≤ 5; rw [rowFor_len]; exact hN
theorem c_CounterTable (n : Int) (oa) (cap : Nat) (D : List (Int × Int)) (l r : Int) (w : World) (hD : DepsAt w oa D) : CtrAns 20 n oa cap D l r w := by
  unfold CtrAns ctrN ctrO
  cases h : ctrF n D l r
  · refine (c_CounterTable_no n oa cap D l r w hD h).mono ?_
    rintro e w' ⟨rfl, hb⟩
    exact ⟨none, 0, [], rfl, OwnRows.none _ _, hb⟩
  · obtain ⟨N, rfl, hN⟩ := ctr_pos h
    refine (c_CounterTable_ok N oa cap D l r w hD h).mono ?_
    rintro e w' ⟨o, c, xs, rfl, hO, hb⟩
    exact ⟨o, c, xs, rfl, hO, hb⟩
theorem c_specCounterTable (n : Int) (oa) (cap : Nat) (D : List (Int × Int)) (l r : Int) (w : World) (hD : DepsAt w oa D) : CtrAns 17 n oa cap D l r w := by
  unfold CtrAns ctrN ctrO
  cases h : ctrF n D l r
  · refine (c_specCounterTable_no n oa cap D l r w hD h).mono ?_
    rintro e w' ⟨rfl, hb⟩
    exact ⟨none, 0, [], rfl, OwnRows.none _ _, hb⟩
  · obtain ⟨N, rfl, hN⟩ := ctr_pos h
    refine (c_specCounterTable_ok N oa cap D l r w hD h).mono ?_
    rintro e w' ⟨o, c, xs, rfl, hO, hb⟩
    exact ⟨o, c, xs, rfl, hO, hb⟩
end Go.Proofs.Ytkanbnbofoabeaa
namespace Go.Proofs.Ytkanbnbofoabeaa
open Go.RowKit
set_option linter.unusedVariables false
set_option maxRecDepth 100000

def OldR (S : Nat) (v : Value) (xs : List Value) : Prop := ∀ y, y = v ∨ y ∈ xs → ∀ g, y.ownBlock = some g → g < S
theorem OwnRows.old {w : World} {B S : Nat} {v : Value} {xs : List Value} {R : List (List Int)} (h : OwnRows w B v xs R) (hS : w.heap.size ≤ S) : OldR S v xs := by
  intro y hy g hg
  rcases hy with rfl | hy
  · exact Nat.lt_of_lt_of_le (World.ownsRow.lt h.outer g hg).2 hS
  · obtain ⟨j, _, o, c, e, h2, _⟩ := h.one hy
    exact Nat.lt_of_lt_of_le (World.ownsRow.lt h2 g hg).2 hS
theorem OwnRows.lowS {w : World} {B S : Nat} {v : Value} {xs : List Value} {R : List (List Int)} (h : OwnRows w B v xs R) (hS : S ≤ B) : ∀ y ∈ xs, ∀ g, y.ownBlock = some g → S ≤ g := by
  intro y hy g hg
  obtain ⟨j, _, o, c, e, h2, _⟩ := h.one hy
  exact Nat.le_trans hS (World.ownsRow.lt h2 g hg).1
theorem OwnRows.many {w w' : World} {B S : Nat} {v : Value} {xs vs : List Value} {R : List (List Int)} (h : OwnRows w B v xs R) (hg : GrownMany w w' vs) (hl : ∀ y ∈ vs, ∀ g, y.ownBlock = some g → S ≤ g) (ho : OldR S v xs) : OwnRows w' B v xs R := by
  have hap : ∀ u, u = v ∨ u ∈ xs → ∀ y ∈ vs, Apart u y := by
    intro u hu y hy
    cases e : u.ownBlock with
    | none => exact .inl e
    | some g => exact .inr fun e' => by have := ho u hu g e; have := hl y hy g (by rw [← e', e]); omega
  refine ⟨h.len, owns_many h.outer hg (hap v (.inl rfl)), fun j hj => ?_, h.pair⟩
  obtain ⟨o, c, h1, h2, h3⟩ := h.rows j hj
  exact ⟨o, c, h1, h2.many hg (hap _ (.inr (List.mem_iff_getElem?.2 ⟨j, h1⟩))), h3⟩
theorem ctr_sum (R : List (List Int)) (h : R.length ≤ 2) (hr : ∀ j, j < R.length → (row R j).length ≤ 5) : sumL R R.length ≤ 10 := by
  match R, h with
  | [], _ => simp [sumL]
  | [a], _ => have h0 := hr 0 (by simp); simp [sumL, row] at h0 ⊢; omega
  | [a, b], _ => have h0 := hr 0 (by simp); have h1 := hr 1 (by simp); simp [sumL, row] at h0 h1 ⊢; omega
theorem OwnRows.after {w w' : World} {B size n : Nat} {e : TypeId} {u v : Value} {ys xs : List Value} {R : List (List Int)} (h : OwnRows w' w.heap.size v xs R) (h' : w.ownsRow B e size u n ys) : ApartR v xs u :=
  ⟨(apart_old h' h.outer).symm, fun y hy => by obtain ⟨j, _, o, c, e, h2, _⟩ := h.one hy; exact (apart_old h' h2).symm⟩
theorem Blk.many {w w' : World} {k : Nat} {c : Array Value} {T : TypeId} {vs : List Value} (h : Blk w k c T) (hg : GrownMany w w' vs) (hn : ∀ y ∈ vs, y.ownBlock ≠ some k) : Blk w' k c T := (hg.block k h.lt hn).trans h
theorem OwnRows.readSeq {w : World} {B c : Nat} {oa : Option Addr} {xs : List Value} {R : List (List Int)} {k : Int} (h : OwnRows w B (.slice oa R.length c) xs (seqR k R)) (hR : R.length ≤ Room) (hr : ∀ j, j < R.length → (row R j).length ≤ Room) : RowsAt w oa (seqR k R) :=
  h.read (by rw [seqR_length]; exact hR) (fun j hj => by rw [seqR_length] at hj; rw [seqR_row hj, seqI_length]; exact hr j hj)
theorem OwnRows.baseLe {w : World} {B S : Nat} {v : Value} {xs : List Value} {R : List (List Int)} (_ : OwnRows w B v xs R) (h : S ≤ B) : S ≤ B := h
theorem ctr_cut {w w3 : World} {B k : Nat} {o8 : Option Addr} {c8 : Nat} {xs8 : List Value} {R : List (List Int)} {m l r : Int} {t : Bool} (kk : Blk w3 k #[.int .i64 0, .slice none 0 0] 28) (hO : OwnRows w3 B (.slice o8 R.length c8) xs8 R) (hkB : k < B) (hB : w.heap.size + 1 ≤ B) (hk : w.heap.size < k)
    (b0 : w3.cell? ⟨w.heap.size, 0, none⟩ = some (.int .i64 l)) (b1 : w3.cell? ⟨w.heap.size, 1, none⟩ = some (.int .i64 r)) (hb : Below w.heap.size w w3) (W' : World) (hW : W' = (w3.setCell ⟨k, 0, none⟩ (.int .i64 m)).setCell ⟨k, 1, none⟩ (.slice o8 R.length c8)) :
    ∃ k8 o8' c8' xs8', Value.pointer (some ⟨k, 0, none⟩) = .pointer (some ⟨k8, 0, none⟩) ∧ Value.bool t = .bool t ∧ Blk W' k8 #[.int .i64 m, .slice o8' R.length c8'] 28 ∧ OwnRows W' (w.heap.size + 1) (.slice o8' R.length c8') xs8' R ∧ W'.cell? ⟨w.heap.size, 0, none⟩ = some (.int .i64 l) ∧ W'.cell? ⟨w.heap.size, 1, none⟩ = some (.int .i64 r) ∧ Below w.heap.size w W' := by
  have hk' := bel_set2 (Below.refl k w3) (Nat.le_refl k) (.int .i64 m) (.slice o8 R.length c8)
  have k1 : Blk _ k #[.int .i64 m, .slice none 0 0] 28 := kk.set 0 (.int .i64 m)
  have k2 : Blk _ k #[.int .i64 m, .slice o8 R.length c8] 28 := k1.set 1 (.slice o8 R.length c8)
  subst hW
  exact ⟨k, o8, c8, xs8, rfl, rfl, k2, ((hO.far_set 0 (.int .i64 m) hkB).far_set 1 (.slice o8 R.length c8) hkB).based hB, (World.cell?_of_block (hk'.block _ hk)).trans b0, (World.cell?_of_block (hk'.block _ hk)).trans b1, bel_set2 hb (Nat.le_of_lt hk) _ _⟩
theorem ctr_cut2 {w w3 : World} {B : Nat} {o8 : Option Addr} {c8 : Nat} {xs8 : List Value} {R : List (List Int)} {m l r : Int} {t : Bool} (hO : OwnRows w3 B (.slice o8 R.length c8) xs8 R) (hB : w.heap.size + 1 ≤ B)
    (b0 : w3.cell? ⟨w.heap.size, 0, none⟩ = some (.int .i64 l)) (b1 : w3.cell? ⟨w.heap.size, 1, none⟩ = some (.int .i64 r)) (hb : Below w.heap.size w w3) (W' : World) (hW : W' = w3.alloc (.cells #[.int .i64 m, .slice o8 R.length c8] 28)) :
    ∃ k8 o8' c8' xs8', Value.pointer (some ⟨w3.heap.size, 0, none⟩) = .pointer (some ⟨k8, 0, none⟩) ∧ Value.bool t = .bool t ∧ Blk W' k8 #[.int .i64 m, .slice o8' R.length c8'] 28 ∧ OwnRows W' (w.heap.size + 1) (.slice o8' R.length c8') xs8' R ∧ W'.cell? ⟨w.heap.size, 0, none⟩ = some (.int .i64 l) ∧ W'.cell? ⟨w.heap.size, 1, none⟩ = some (.int .i64 r) ∧ Below w.heap.size w W' := by
  have hk' := (Below.refl w3.heap.size w3).alloc (Nat.le_refl _) (.cells #[.int .i64 m, .slice o8 R.length c8] 28)
  subst hW
  exact ⟨w3.heap.size, o8, c8, xs8, rfl, rfl, Blk.new w3 #[.int .i64 m, .slice o8 R.length c8] 28, (hO.keep hk').based hB, cell_keep b0 hk', cell_keep b1 hk', bel_to hb hk'⟩
theorem ctr_cutB {w w3 : World} {B k : Nat} {o8 : Option Addr} {c8 : Nat} {xs8 : List Value} {R : List (List Int)} {m : Int} {t : Bool} (kk : Blk w3 k #[.int .i64 0, .slice none 0 0] 28) (hO : OwnRows w3 B (.slice o8 R.length c8) xs8 R) (hkB : k < B) (hB : w.heap.size ≤ B) (hk : w.heap.size ≤ k)
    (hb : Below w.heap.size w w3) (W' : World) (hW : W' = (w3.setCell ⟨k, 0, none⟩ (.int .i64 m)).setCell ⟨k, 1, none⟩ (.slice o8 R.length c8)) :
    ∃ k8 o8' c8' xs8', Value.pointer (some ⟨k, 0, none⟩) = .pointer (some ⟨k8, 0, none⟩) ∧ Value.bool t = .bool t ∧ Blk W' k8 #[.int .i64 m, .slice o8' R.length c8'] 28 ∧ OwnRows W' w.heap.size (.slice o8' R.length c8') xs8' R ∧ Below w.heap.size w W' := by
  have k1 : Blk _ k #[.int .i64 m, .slice none 0 0] 28 := kk.set 0 (.int .i64 m)
  have k2 : Blk _ k #[.int .i64 m, .slice o8 R.length c8] 28 := k1.set 1 (.slice o8 R.length c8)
  subst hW
  exact ⟨k, o8, c8, xs8, rfl, rfl, k2, ((hO.far_set 0 (.int .i64 m) hkB).far_set 1 (.slice o8 R.length c8) hkB).based hB, bel_set2 hb hk _ _⟩
theorem ctr_cutB2 {w w3 : World} {B : Nat} {o8 : Option Addr} {c8 : Nat} {xs8 : List Value} {R : List (List Int)} {m : Int} {t : Bool} (hO : OwnRows w3 B (.slice o8 R.length c8) xs8 R) (hB : w.heap.size ≤ B)
    (hb : Below w.heap.size w w3) (W' : World) (hW : W' = w3.alloc (.cells #[.int .i64 m, .slice o8 R.length c8] 28)) :
    ∃ k8 o8' c8' xs8', Value.pointer (some ⟨w3.heap.size, 0, none⟩) = .pointer (some ⟨k8, 0, none⟩) ∧ Value.bool t = .bool t ∧ Blk W' k8 #[.int .i64 m, .slice o8' R.length c8'] 28 ∧ OwnRows W' w.heap.size (.slice o8' R.length c8') xs8' R ∧ Below w.heap.size w W' := by
  have hk' := (Below.refl w3.heap.size w3).alloc (Nat.le_refl _) (.cells #[.int .i64 m, .slice o8 R.length c8] 28)
  subst hW
  exact ⟨w3.heap.size, o8, c8, xs8, rfl, rfl, Blk.new w3 #[.int .i64 m, .slice o8 R.length c8] 28, (hO.keep hk').based hB, bel_to hb hk'⟩
set_option maxHeartbeats 3200000 in
theorem w_FnExactCounterTable (w : World) (n : Int) (wfn : (Lit.int .i64 n).wf = true) {v : Value} (hv : InDeps w v) {x : Value} (hx : ∃ l r : Int, x = .agg #[.int .i64 l, .int .i64 r] ∧ (Lit.int .i64 l).wf = true ∧ (Lit.int .i64 r).wf = true) :
    Calls Try.prog 3 #[.int .i64 n, v, x] w fun e w' => e = .returned (.bool true) ∧ Below w.heap.size w w' := by
  obtain ⟨a, len, cap, rfl, hm, hD0⟩ := hv
  obtain ⟨l, r, rfl, _, _⟩ := hx
  have hb := (Below.refl w.heap.size w).alloc (Nat.le_refl _) (.cells #[.int .i64 l, .int .i64 r] 24)
  have b0 := box_at w #[.int .i64 l, .int .i64 r] 24 0 _ rfl
  have b1 := box_at w #[.int .i64 l, .int .i64 r] 24 1 _ rfl
  by_cases hbig : (1048576 : Int) < len
  · go_enter Try.func3, Try.ntmps3
    go_wp2_with (first | (go_at_call 16; refine Calls.mono (c_szDepS_no _ _ _ _ (by omega) hbig hm _) ?_; rintro e w1 ⟨rfl, hbn⟩; replace hb := bel_to (w := w) (by first | exact hb | exact hb.alloc hb.size _ | exact (hb.alloc hb.size _).alloc (Nat.le_trans hb.size (by simp)) _ | exact hb.setCell (by simp [hb.size]) _) hbn; clear hbn))
    go_ret
    exact ⟨rfl, hb⟩
  obtain ⟨D, rfl, hD⟩ := hD0 (room_of (by omega))
  have hle : (D.length : Int) ≤ 1048576 := by omega
  have hr := hD.len
  clear hbig
  have HLN := ctr_len n D l r
  have HRW : Hid (∀ j, j < (ctrO n D l r).length → (row (ctrO n D l r) j).length ≤ 5) := fun j hj => ctr_row n D l r hj
  have HSP : Hid (∀ oa cap w, DepsAt w oa D → CtrAns 17 n oa cap D l r w) := fun oa cap w h => c_specCounterTable n oa cap D l r w h
  have HIM : Hid (∀ oa cap w, DepsAt w oa D → CtrAns 20 n oa cap D l r w) := fun oa cap w h => c_CounterTable n oa cap D l r w h
  unfold CtrAns at HSP HIM
  generalize ctrO n D l r = R at *
  generalize ctrF n D l r = t at *
  generalize ctrN n D l r = m at *
  go_enter Try.func3, Try.ntmps3
  go_wp2_with fail
  refine (c_szDepS_ok _ _ _ _ (by omega) hle _).mono ?_
  rintro e w0 ⟨rfl, hbn⟩
  replace b0 := cell_keep b0 hbn
  replace b1 := cell_keep b1 hbn
  replace hb := bel_to hb hbn
  clear hbn
  have hdec : decide ((1048576 : Int) - (D.length : Int) < 0) = false := by simp; omega
  have a0 := fun o => cell_keep b0 ((Below.refl _ _).alloc (Nat.le_refl _) o)
  have a1 := fun o => cell_keep b1 ((Below.refl _ _).alloc (Nat.le_refl _) o)
  go_upto_region 5 with fail
  go_cut [8, 9] from 23 to 31 (fun p b wx => ∃ k8 o8 c8 xs8, p = .pointer (some ⟨k8, 0, none⟩) ∧ b = .bool t ∧ Blk wx k8 #[.int .i64 m, .slice o8 R.length c8] 28 ∧ OwnRows wx (w.heap.size + 1) (.slice o8 R.length c8) xs8 R ∧ wx.cell? ⟨w.heap.size, 0, none⟩ = some (.int .i64 l) ∧ wx.cell? ⟨w.heap.size, 1, none⟩ = some (.int .i64 r) ∧ Below w.heap.size w wx)
  case first =>
    go_region_law (first
      | ((try go_simp); refine (c_toDepS _ _ D _ (hD.keep (by first | exact hb | exact hb.drew | exact hb.alloc hb.size _ | exact (hb.alloc hb.size _).drew))).mono ?_; rintro e w1 ⟨v1, rfl, h1, hbn⟩; obtain ⟨o1, c1, rfl, hL1⟩ := h1.reads hr; clear h1; ((try have hk9 := Blk.lt k8); (first | replace k8 := Blk.keep k8 (bel_to (by first | exact Below.refl _ _ | exact (Below.refl _ _).drew | exact (Below.refl _ _).alloc (Nat.le_refl _) _ | exact ((Below.refl _ _).alloc (Nat.le_refl _) _).drew) hbn) | (have k8 := Blk.keep (Blk.new _ _ _) hbn; have hk10 := World.block_lt_of_cell? _ _ b0) | (have k8 := Blk.keep (Blk.drew (Blk.new _ _ _)) hbn; have hk10 := World.block_lt_of_cell? _ _ b0) | skip)); replace b0 := cell_keep b0 (bel_to (by first | exact Below.refl _ _ | exact (Below.refl _ _).drew | exact (Below.refl _ _).alloc (Nat.le_refl _) _ | exact ((Below.refl _ _).alloc (Nat.le_refl _) _).drew) hbn); replace b1 := cell_keep b1 (bel_to (by first | exact Below.refl _ _ | exact (Below.refl _ _).drew | exact (Below.refl _ _).alloc (Nat.le_refl _) _ | exact ((Below.refl _ _).alloc (Nat.le_refl _) _).drew) hbn); replace hb := bel_to hb (bel_to (by first | exact Below.refl _ _ | exact (Below.refl _ _).drew | exact (Below.refl _ _).alloc (Nat.le_refl _) _ | exact ((Below.refl _ _).alloc (Nat.le_refl _) _).drew) hbn); clear hbn a0 a1; have a0 := fun o => cell_keep b0 ((Below.refl _ _).alloc (Nat.le_refl _) o); have a1 := fun o => cell_keep b1 ((Below.refl _ _).alloc (Nat.le_refl _) o))
      | ((try go_simp); refine Calls.mono (c_toDep _ _ _) ?_; rintro e w2 ⟨rfl, hbn⟩; (try replace hL1 := hL1.keep (bel_to (by first | exact Below.refl _ _ | exact (Below.refl _ _).drew | exact (Below.refl _ _).alloc (Nat.le_refl _) _ | exact ((Below.refl _ _).alloc (Nat.le_refl _) _).drew) hbn)); ((try have hk9 := Blk.lt k8); (first | replace k8 := Blk.keep k8 (bel_to (by first | exact Below.refl _ _ | exact (Below.refl _ _).drew | exact (Below.refl _ _).alloc (Nat.le_refl _) _ | exact ((Below.refl _ _).alloc (Nat.le_refl _) _).drew) hbn) | (have k8 := Blk.keep (Blk.new _ _ _) hbn; have hk10 := World.block_lt_of_cell? _ _ b0) | (have k8 := Blk.keep (Blk.drew (Blk.new _ _ _)) hbn; have hk10 := World.block_lt_of_cell? _ _ b0) | skip)); replace b0 := cell_keep b0 (bel_to (by first | exact Below.refl _ _ | exact (Below.refl _ _).drew | exact (Below.refl _ _).alloc (Nat.le_refl _) _ | exact ((Below.refl _ _).alloc (Nat.le_refl _) _).drew) hbn); replace b1 := cell_keep b1 (bel_to (by first | exact Below.refl _ _ | exact (Below.refl _ _).drew | exact (Below.refl _ _).alloc (Nat.le_refl _) _ | exact ((Below.refl _ _).alloc (Nat.le_refl _) _).drew) hbn); replace hb := bel_to hb (bel_to (by first | exact Below.refl _ _ | exact (Below.refl _ _).drew | exact (Below.refl _ _).alloc (Nat.le_refl _) _ | exact ((Below.refl _ _).alloc (Nat.le_refl _) _).drew) hbn); clear hbn a0 a1; have a0 := fun o => cell_keep b0 ((Below.refl _ _).alloc (Nat.le_refl _) o); have a1 := fun o => cell_keep b1 ((Below.refl _ _).alloc (Nat.le_refl _) o))
      | ((try go_simp); refine (HSP.out _ _ _ (by first | exact hL1 | exact hL1.keep ((Below.refl _ _).alloc (Nat.le_refl _) _))).mono ?_; rintro e w3 ⟨o8, c8, xs8, rfl, hO8, hbn⟩; ((try have hk9 := Blk.lt k8); (first | replace k8 := Blk.keep k8 (bel_to (by first | exact Below.refl _ _ | exact (Below.refl _ _).drew | exact (Below.refl _ _).alloc (Nat.le_refl _) _ | exact ((Below.refl _ _).alloc (Nat.le_refl _) _).drew) hbn) | (have k8 := Blk.keep (Blk.new _ _ _) hbn; have hk10 := World.block_lt_of_cell? _ _ b0) | (have k8 := Blk.keep (Blk.drew (Blk.new _ _ _)) hbn; have hk10 := World.block_lt_of_cell? _ _ b0) | skip)); have hz := World.block_lt_of_cell? _ _ b0; replace b0 := cell_keep b0 (bel_to (by first | exact Below.refl _ _ | exact (Below.refl _ _).drew | exact (Below.refl _ _).alloc (Nat.le_refl _) _ | exact ((Below.refl _ _).alloc (Nat.le_refl _) _).drew) hbn); replace b1 := cell_keep b1 (bel_to (by first | exact Below.refl _ _ | exact (Below.refl _ _).drew | exact (Below.refl _ _).alloc (Nat.le_refl _) _ | exact ((Below.refl _ _).alloc (Nat.le_refl _) _).drew) hbn); have hB8 : w.heap.size + 1 ≤ _ := (OwnRows.baseLe hO8 (by simp at hz ⊢; omega)); replace hb := bel_to hb (bel_to (by first | exact Below.refl _ _ | exact (Below.refl _ _).drew | exact (Below.refl _ _).alloc (Nat.le_refl _) _ | exact ((Below.refl _ _).alloc (Nat.le_refl _) _).drew) hbn); clear hbn hL1 a0 a1; (first | (have q0 := k8.cell 0 _ rfl; have q1 := k8.cell 1 _ rfl; have f0 := k8.free 0; have f1 := k8.free 1) | (have k8 := Blk.new w3 #[.int .i64 0, .slice none 0 0] 28; have q0 := k8.cell 0 _ rfl; have q1 := k8.cell 1 _ rfl; have f0 := k8.free 0; have f1 := k8.free 1))))
    all_goals
      go_wp2_with fail
      go_meet
      first
        | exact ctr_cut k8 hO8 (by first | exact hk9 | simp) hB8 (by first | exact hk10 | exact hz) b0 b1 hb _ rfl
        | exact ctr_cut2 hO8 hB8 b0 b1 hb _ rfl
  case rest =>
    obtain ⟨k8, o8, c8, xs8, rfl, rfl, k8T, hO8, b0, b1, hb⟩ := hcut
    have hR2 : R.length ≤ Room := by unfold Room; omega
    have HRr : Hid (∀ j, j < R.length → (row R j).length ≤ Room) := fun j hj => Nat.le_trans (HRW.out j hj) (by unfold Room; omega)
    have HSM : Hid (sumL R R.length ≤ 10) := ctr_sum R HLN HRW.out
    have htt : (t != t) = false := by simp
    go_wp2_with fail
    refine (c_toDepS _ _ D _ (hD.keep hb)).mono ?_
    rintro e w1 ⟨v1, rfl, xD, hbn⟩
    have ap8 := hO8.fresh xD
    have nx8 : v1.ownBlock ≠ some k8 := fun e => by have := (World.ownsRow.lt xD k8 e).1; have := k8T.lt; omega
    have nxb : v1.ownBlock ≠ some w.heap.size := fun e => by have h1 := (World.ownsRow.lt xD _ e).1; have h2 := World.block_lt_of_cell? _ _ b0; simp at h2; omega
    replace k8T := k8T.keep hbn
    replace hO8 := hO8.keep hbn
    replace b0 := cell_keep b0 hbn
    replace b1 := cell_keep b1 hbn
    have hbx := hb.size
    replace hb := bel_to hb hbn
    obtain ⟨o1, c1, rfl⟩ := xD.shape
    clear hbn
    go_wp2_with fail
    refine Calls.mono (c_toDep _ _ _) ?_
    rintro e w2 ⟨rfl, hbn⟩
    replace k8T := k8T.keep hbn
    replace hO8 := hO8.keep hbn
    replace xD := xD.keep hbn
    replace b0 := cell_keep b0 hbn
    replace b1 := cell_keep b1 hbn
    replace hb := bel_to hb hbn
    clear hbn
    go_wp2_with fail
    refine (HIM.out _ _ _ (xD.deps rfl hr)).mono ?_
    rintro e w3 ⟨o11, c11, xs11, rfl, hO11, hbn⟩
    have hOld := hO8.old (Nat.le_refl _)
    have ap11 := hO11.after xD
    have hlt8 := k8T.lt
    have hltb := World.block_lt_of_cell? _ _ b0
    simp only at hltb
    have hlow11 := hO11.low
    have hold11 := hO11.old (Nat.le_refl _)
    have hb3 := hbn.size
    replace k8T := k8T.keep hbn
    replace hO8 := hO8.keep hbn
    replace xD := xD.keep hbn
    replace b0 := cell_keep b0 hbn
    replace b1 := cell_keep b1 hbn
    replace hb := bel_to hb hbn
    clear hbn
    have nx11 : (Value.slice o1 D.length c1).ownBlock ≠ some w3.heap.size := fun e => by have := (World.ownsRow.lt xD _ e).2; omega
    have k11 := Blk.new w3 #[.int .i64 m, .slice o11 R.length c11] 28
    have hbn := (Below.refl w3.heap.size w3).alloc (Nat.le_refl _) (.cells #[.int .i64 m, .slice o11 R.length c11] 28)
    replace k8T := k8T.keep hbn
    replace hO8 := hO8.keep hbn
    replace xD := xD.keep hbn
    replace b0 := cell_keep b0 hbn
    replace b1 := cell_keep b1 hbn
    replace hO11 := hO11.keep hbn
    replace hb := bel_to hb hbn
    clear hbn
    have p0 := k11.cell 0 (.int .i64 m) rfl
    have p1 := k11.cell 1 (.slice o11 R.length c11) rfl
    have q0 := k8T.cell 0 (.int .i64 m) rfl
    have q1 := k8T.cell 1 (.slice o8 R.length c8) rfl
    go_wp2_with fail
    refine Calls.mono (Ans.eqb (b' := true) (c_eqTable m _ _ _ _ R _ (hO11.read hR2 HRr.out) (hO8.read hR2 HRr.out)) (by simp)) ?_
    rintro e w4 ⟨rfl, hbn⟩
    replace k8T := k8T.keep hbn
    replace hO8 := hO8.keep hbn
    replace xD := xD.keep hbn
    replace b0 := cell_keep b0 hbn
    replace b1 := cell_keep b1 hbn
    replace hO11 := hO11.keep hbn
    replace k11 := k11.keep hbn
    replace hb := bel_to hb hbn
    clear hbn
    clear p0 p1 q0 q1
    go_wp2_with fail
    refine (c_toDepS _ _ D _ (hD.keep hb)).mono ?_
    rintro e w5 ⟨v5, rfl, tD, hbn⟩
    replace k8T := k8T.keep hbn
    replace hO8 := hO8.keep hbn
    replace xD := xD.keep hbn
    replace b0 := cell_keep b0 hbn
    replace b1 := cell_keep b1 hbn
    replace hO11 := hO11.keep hbn
    replace k11 := k11.keep hbn
    replace hb := bel_to hb hbn
    clear hbn
    obtain ⟨o5, c5, rfl⟩ := tD.shape
    go_wp2_with fail
    refine Calls.mono (Ans.eqb (b' := true) (c_eqDepS _ _ _ _ _ _ _ (xD.deps rfl hr) (tD.deps rfl hr)) (by simp)) ?_
    rintro e w6 ⟨rfl, hbn⟩
    clear tD
    replace k8T := k8T.keep hbn
    replace hO8 := hO8.keep hbn
    replace xD := xD.keep hbn
    replace b0 := cell_keep b0 hbn
    replace b1 := cell_keep b1 hbn
    replace hO11 := hO11.keep hbn
    replace k11 := k11.keep hbn
    replace hb := bel_to hb hbn
    clear hbn
    go_wp2_with fail
    refine Calls.mono (c_markDepS _ _ _ _ _ (by omega) _ hr xD) ?_
    rintro e w7 ⟨rfl, hm7, hg⟩
    replace hb := below_mark hb (xD.based hbx) hg
    replace k8T := k8T.grown hg (fun e => nx8 e.symm)
    replace k11 := k11.grown hg (fun e => nx11 e.symm)
    replace hO8 := hO8.far hg ap8
    replace hO11 := hO11.far hg ap11
    replace b0 := (hg.cell_far _ (World.block_lt_of_cell? _ _ b0) (fun e => nxb e.symm)).trans b0
    replace b1 := (hg.cell_far _ (World.block_lt_of_cell? _ _ b1) (fun e => nxb e.symm)).trans b1
    clear hg hm7 xD nx8 nx11 nxb ap8 ap11
    have hk0 : decide (1 + 2 * (D.length : Int) < 0) = false := by simp; omega
    have p0 := k11.cell 0 (.int .i64 m) rfl
    have p1 := k11.cell 1 (.slice o11 R.length c11) rfl
    have q0 := k8T.cell 0 (.int .i64 m) rfl
    have q1 := k8T.cell 1 (.slice o8 R.length c8) rfl
    go_wp2_with fail
    refine Calls.mono (Ans.eqb (b' := true) (c_eqTable m _ _ _ _ R _ (hO11.read hR2 HRr.out) (hO8.read hR2 HRr.out)) (by simp)) ?_
    rintro e w8 ⟨rfl, hbn⟩
    replace k8T := k8T.keep hbn
    replace hO8 := hO8.keep hbn
    replace b0 := cell_keep b0 hbn
    replace b1 := cell_keep b1 hbn
    replace hO11 := hO11.keep hbn
    replace k11 := k11.keep hbn
    replace hb := bel_to hb hbn
    clear hbn
    clear p0 p1 q0 q1
    have p0 := k11.cell 0 (.int .i64 m) rfl
    have p1 := k11.cell 1 (.slice o11 R.length c11) rfl
    go_wp2_with fail
    refine Calls.mono (c_markTable m _ _ _ _ R 1 _ hO11 hR2 (by have := HSM.out; omega)) ?_
    rintro e w9 ⟨rfl, hO11, hg⟩
    replace hb := below_many hb (Nat.le_refl _) hg (fun y hy g e => Nat.le_trans (Nat.le_of_lt hltb) (hlow11 y hy g e))
    replace k8T := k8T.many hg (fun y hy e => by have := hlow11 y hy _ e; omega)
    replace k11 := k11.many hg (fun y hy e => absurd (hold11 y (.inr hy) _ e) (Nat.lt_irrefl _))
    replace hO8 := hO8.many hg hlow11 hOld
    replace b0 := cell_many b0 hg hlow11 hltb
    replace b1 := cell_many b1 hg hlow11 hltb
    clear hg p0 p1
    have hs0 : decide ((1 : Int) + (sumL R R.length : Int) < 0) = false := by simp; omega
    have hs1 : ((1 : Int) + (sumL R R.length : Int) != 1 + (sumL R R.length : Int)) = false := by simp
    have p0 := k11.cell 0 (.int .i64 m) rfl
    have p1 := k11.cell 1 (.slice o11 R.length c11) rfl
    go_wp2_with fail
    refine Calls.mono (c_heldTable m _ _ R 1 _ (hO11.readSeq hR2 HRr.out) (by have := HSM.out; omega)) ?_
    rintro e w10 ⟨rfl, hbn⟩
    replace k8T := k8T.keep hbn
    replace hO8 := hO8.keep hbn
    replace b0 := cell_keep b0 hbn
    replace b1 := cell_keep b1 hbn
    replace hO11 := hO11.keep hbn
    replace k11 := k11.keep hbn
    replace hb := bel_to hb hbn
    clear hbn
    clear p0 p1
    have hD10 := hD.keep hb
    have hbb := Below.refl w10.heap.size w10
    have a0 := fun o => cell_keep b0 ((Below.refl _ _).alloc (Nat.le_refl _) o)
    have a1 := fun o => cell_keep b1 ((Below.refl _ _).alloc (Nat.le_refl _) o)
    go_upto_region 24 with fail
    go_cut [16, 17] from 83 to 91 (fun p b wx => ∃ k6 o6 c6 xs6, p = .pointer (some ⟨k6, 0, none⟩) ∧ b = .bool t ∧ Blk wx k6 #[.int .i64 m, .slice o6 R.length c6] 28 ∧ OwnRows wx w10.heap.size (.slice o6 R.length c6) xs6 R ∧ Below w10.heap.size w10 wx)
    case first =>
      go_region_law (first
        | ((try go_simp); refine (c_toDepS _ _ D _ (hD10.keep (by first | exact hbb | exact hbb.drew | exact hbb.alloc hbb.size _ | exact (hbb.alloc hbb.size _).drew))).mono ?_; rintro e w11 ⟨v1, rfl, h1, hbn⟩; obtain ⟨o1, c1, rfl, hL1⟩ := h1.reads hr; clear h1; ((try have hk9 := Blk.lt k6); (first | replace k6 := Blk.keep k6 (bel_to (by first | exact Below.refl _ _ | exact (Below.refl _ _).drew | exact (Below.refl _ _).alloc (Nat.le_refl _) _ | exact ((Below.refl _ _).alloc (Nat.le_refl _) _).drew) hbn) | (have k6 := Blk.keep (Blk.new _ _ _) hbn; have hk10 := hbb.size) | (have k6 := Blk.keep (Blk.drew (Blk.new _ _ _)) hbn; have hk10 := hbb.size) | skip)); replace b0 := cell_keep b0 (bel_to (by first | exact Below.refl _ _ | exact (Below.refl _ _).drew | exact (Below.refl _ _).alloc (Nat.le_refl _) _ | exact ((Below.refl _ _).alloc (Nat.le_refl _) _).drew) hbn); replace b1 := cell_keep b1 (bel_to (by first | exact Below.refl _ _ | exact (Below.refl _ _).drew | exact (Below.refl _ _).alloc (Nat.le_refl _) _ | exact ((Below.refl _ _).alloc (Nat.le_refl _) _).drew) hbn); replace hbb := bel_to hbb (bel_to (by first | exact Below.refl _ _ | exact (Below.refl _ _).drew | exact (Below.refl _ _).alloc (Nat.le_refl _) _ | exact ((Below.refl _ _).alloc (Nat.le_refl _) _).drew) hbn); clear hbn a0 a1; have a0 := fun o => cell_keep b0 ((Below.refl _ _).alloc (Nat.le_refl _) o); have a1 := fun o => cell_keep b1 ((Below.refl _ _).alloc (Nat.le_refl _) o))
        | ((try go_simp); refine Calls.mono (c_toDep _ _ _) ?_; rintro e w12 ⟨rfl, hbn⟩; (try replace hL1 := hL1.keep (bel_to (by first | exact Below.refl _ _ | exact (Below.refl _ _).drew | exact (Below.refl _ _).alloc (Nat.le_refl _) _ | exact ((Below.refl _ _).alloc (Nat.le_refl _) _).drew) hbn)); ((try have hk9 := Blk.lt k6); (first | replace k6 := Blk.keep k6 (bel_to (by first | exact Below.refl _ _ | exact (Below.refl _ _).drew | exact (Below.refl _ _).alloc (Nat.le_refl _) _ | exact ((Below.refl _ _).alloc (Nat.le_refl _) _).drew) hbn) | (have k6 := Blk.keep (Blk.new _ _ _) hbn; have hk10 := hbb.size) | (have k6 := Blk.keep (Blk.drew (Blk.new _ _ _)) hbn; have hk10 := hbb.size) | skip)); replace b0 := cell_keep b0 (bel_to (by first | exact Below.refl _ _ | exact (Below.refl _ _).drew | exact (Below.refl _ _).alloc (Nat.le_refl _) _ | exact ((Below.refl _ _).alloc (Nat.le_refl _) _).drew) hbn); replace b1 := cell_keep b1 (bel_to (by first | exact Below.refl _ _ | exact (Below.refl _ _).drew | exact (Below.refl _ _).alloc (Nat.le_refl _) _ | exact ((Below.refl _ _).alloc (Nat.le_refl _) _).drew) hbn); replace hbb := bel_to hbb (bel_to (by first | exact Below.refl _ _ | exact (Below.refl _ _).drew | exact (Below.refl _ _).alloc (Nat.le_refl _) _ | exact ((Below.refl _ _).alloc (Nat.le_refl _) _).drew) hbn); clear hbn a0 a1; have a0 := fun o => cell_keep b0 ((Below.refl _ _).alloc (Nat.le_refl _) o); have a1 := fun o => cell_keep b1 ((Below.refl _ _).alloc (Nat.le_refl _) o))
        | ((try go_simp); refine (HIM.out _ _ _ (by first | exact hL1 | exact hL1.keep ((Below.refl _ _).alloc (Nat.le_refl _) _))).mono ?_; rintro e w13 ⟨o6, c6, xs6, rfl, hO6, hbn⟩; ((try have hk9 := Blk.lt k6); (first | replace k6 := Blk.keep k6 (bel_to (by first | exact Below.refl _ _ | exact (Below.refl _ _).drew | exact (Below.refl _ _).alloc (Nat.le_refl _) _ | exact ((Below.refl _ _).alloc (Nat.le_refl _) _).drew) hbn) | (have k6 := Blk.keep (Blk.new _ _ _) hbn; have hk10 := hbb.size) | (have k6 := Blk.keep (Blk.drew (Blk.new _ _ _)) hbn; have hk10 := hbb.size) | skip)); have hz := hbb.size; have hB6 : w10.heap.size ≤ _ := (OwnRows.baseLe hO6 (by first | exact hz | (simp; omega))); replace hbb := bel_to hbb (bel_to (by first | exact Below.refl _ _ | exact (Below.refl _ _).drew | exact (Below.refl _ _).alloc (Nat.le_refl _) _ | exact ((Below.refl _ _).alloc (Nat.le_refl _) _).drew) hbn); clear hbn hL1 a0 a1 b0 b1; (first | (have q0 := k6.cell 0 _ rfl; have q1 := k6.cell 1 _ rfl; have f0 := k6.free 0; have f1 := k6.free 1) | (have k6 := Blk.new w13 #[.int .i64 0, .slice none 0 0] 28; have q0 := k6.cell 0 _ rfl; have q1 := k6.cell 1 _ rfl; have f0 := k6.free 0; have f1 := k6.free 1))))
      all_goals
        go_wp2_with fail
        go_meet
        first
          | exact ctr_cutB k6 hO6 (by first | exact hk9 | simp) hB6 (by first | exact hk10 | exact hz) hbb _ rfl
          | exact ctr_cutB2 hO6 hB6 hbb _ rfl
    case rest =>
      clear hbb a0 a1 hD10
      obtain ⟨k6, o6, c6, xs6, rfl, rfl, k6T, hO6, hbn⟩ := hcut
      replace k8T := k8T.keep hbn
      replace hO8 := hO8.keep hbn
      replace b0 := cell_keep b0 hbn
      replace b1 := cell_keep b1 hbn
      replace hO11 := hO11.keep hbn
      replace k11 := k11.keep hbn
      replace hb := bel_to hb hbn
      clear hbn
      have r0 := k6T.cell 0 (.int .i64 m) rfl
      have r1 := k6T.cell 1 (.slice o6 R.length c6) rfl
      have q0 := k8T.cell 0 (.int .i64 m) rfl
      have q1 := k8T.cell 1 (.slice o8 R.length c8) rfl
      go_wp2_with fail
      refine Calls.mono (Ans.eqb (b' := true) (c_eqTable m _ _ _ _ R _ (hO6.read hR2 HRr.out) (hO8.read hR2 HRr.out)) (by simp)) ?_
      rintro e w14 ⟨rfl, hbn⟩
      replace k8T := k8T.keep hbn
      replace hO8 := hO8.keep hbn
      replace b0 := cell_keep b0 hbn
      replace b1 := cell_keep b1 hbn
      replace hO11 := hO11.keep hbn
      replace k11 := k11.keep hbn
      replace k6T := k6T.keep hbn
      replace hO6 := hO6.keep hbn
      replace hb := bel_to hb hbn
      clear hbn
      clear r0 r1 q0 q1
      have p0 := k11.cell 0 (.int .i64 m) rfl
      have p1 := k11.cell 1 (.slice o11 R.length c11) rfl
      go_wp2_with fail
      refine Calls.mono (c_heldTable m _ _ R 1 _ (hO11.readSeq hR2 HRr.out) (by have := HSM.out; omega)) ?_
      rintro e w15 ⟨rfl, hbn⟩
      replace k8T := k8T.keep hbn
      replace hO8 := hO8.keep hbn
      replace b0 := cell_keep b0 hbn
      replace b1 := cell_keep b1 hbn
      replace hO11 := hO11.keep hbn
      replace k11 := k11.keep hbn
      replace k6T := k6T.keep hbn
      replace hO6 := hO6.keep hbn
      replace hb := bel_to hb hbn
      clear hbn
      clear p0 p1
      go_wp2
      go_ret
      exact ⟨rfl, hb⟩
end Go.Proofs.Ytkanbnbofoabeaa
