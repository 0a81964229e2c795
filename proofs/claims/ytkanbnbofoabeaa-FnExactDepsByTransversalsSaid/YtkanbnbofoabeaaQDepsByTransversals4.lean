/- Contracts and lemmas for FnExactDepsByTransversals, part 4 of 4. -/
import Derived.Test.YtkanbnbofoabeaaQDepsByTransversals1
import Derived.Test.YtkanbnbofoabeaaQDepsByTransversals2
import Derived.Test.YtkanbnbofoabeaaQDepsByTransversals3
import Derived.ProofKit
import Derived.OpenShut
import Derived.Lib.SmallJoins
import Derived.Deep.SlicePairs
import Derived.Deep.Matrix
import Derived.Deep.RegionHeld3
namespace Go.Proofs.Ytkanbnbofoabeaa
open Go.RowKit
set_option linter.unusedVariables false
set_option maxRecDepth 100000

structure OwnRows (w : World) (B : Nat) (v : Value) (xs : List Value) (R : List (List Int)) : Prop where
  len : xs.length = R.length
  outer : OwnV w B v xs
  rows : ∀ j, j < R.length → ∃ o c, xs[j]? = some (.slice o (row R j).length c) ∧ OwnI w B (.slice o (row R j).length c) (row R j) ∧ Apart v (.slice o (row R j).length c)
  pair : ∀ i j, i < j → j < R.length → ∀ u u', xs[i]? = some u → xs[j]? = some u' → Apart u u'
theorem OwnRows.keep {w w' : World} {B : Nat} {v : Value} {xs : List Value} {R : List (List Int)} (h : OwnRows w B v xs R) (hb : Below w.heap.size w w') : OwnRows w' B v xs R :=
  ⟨h.len, h.outer.keep hb, fun j hj => by
    obtain ⟨o, c, h1, h2, h3⟩ := h.rows j hj
    exact ⟨o, c, h1, h2.keep hb, h3⟩, h.pair⟩
theorem OwnRows.based {w : World} {B B' : Nat} {v : Value} {xs : List Value} {R : List (List Int)} (h : OwnRows w B v xs R) (hb : B' ≤ B) : OwnRows w B' v xs R :=
  ⟨h.len, owns_base h.outer hb, fun j hj => by
    obtain ⟨o, c, h1, h2, h3⟩ := h.rows j hj
    exact ⟨o, c, h1, h2.based hb, h3⟩, h.pair⟩
theorem OwnRows.shape {w : World} {B : Nat} {v : Value} {xs : List Value} {R : List (List Int)} (h : OwnRows w B v xs R) : ∃ oa c, v = .slice oa R.length c := by
  obtain ⟨oa, c, e, _⟩ := owns_cells h.outer
  exact ⟨oa, c, by rw [e, h.len]⟩
theorem OwnRows.at_ {w : World} {B : Nat} {oa : Option Addr} {n c : Nat} {xs : List Value} {R : List (List Int)} (h : OwnRows w B (.slice oa n c) xs R) (h0 : 0 < R.length) :
    ∃ g, oa = some ⟨g, 0, none⟩ ∧ B ≤ g ∧ g < w.heap.size ∧ ∀ j, j < R.length → w.cell? ⟨g, j, none⟩ = xs[j]? := by
  obtain ⟨oa', c', e, hg⟩ := owns_cells h.outer
  simp only [Value.slice.injEq] at e
  obtain ⟨rfl, _, rfl⟩ := e
  obtain ⟨g, h1, h2, h3, _, h4, _⟩ := hg (by rw [h.len]; exact h0)
  exact ⟨g, h1, h2, h3, fun j hj => h4 j (by rw [h.len]; omega)⟩
theorem OwnRows.read {w : World} {B : Nat} {oa : Option Addr} {n c : Nat} {xs : List Value} {R : List (List Int)} (h : OwnRows w B (.slice oa n c) xs R) (hR : R.length ≤ Room) (hr : ∀ j, j < R.length → (row R j).length ≤ Room) : RowsAt w oa R :=
  ⟨hR, fun h0 => by
    obtain ⟨g, e, _, hlt, hc⟩ := h.at_ h0
    refine ⟨g, 0, e, hlt, fun j hj => ?_⟩
    obtain ⟨o, c', h1, h2, _⟩ := h.rows j hj
    exact ⟨o, c', by rw [Nat.zero_add, hc j hj]; exact h1, h2.ints rfl (hr j hj)⟩⟩

/-- Nothing has turned but in the blocks of these slices. -/
structure GrownMany (w w' : World) (vs : List Value) : Prop where
  os : w'.os = w.os
  tape : w'.tape = w.tape
  output : w'.output = w.output
  size : w.heap.size ≤ w'.heap.size
  block : ∀ k, k < w.heap.size → (∀ y ∈ vs, y.ownBlock ≠ some k) → w'.heap[k]? = w.heap[k]?
theorem GrownMany.refl (w : World) (vs : List Value) : GrownMany w w vs := ⟨rfl, rfl, rfl, Nat.le_refl _, fun _ _ _ => rfl⟩
theorem GrownMany.trans {a b c : World} {vs : List Value} (h : GrownMany a b vs) (k : GrownMany b c vs) : GrownMany a c vs :=
  ⟨k.os.trans h.os, k.tape.trans h.tape, k.output.trans h.output, Nat.le_trans h.size k.size, fun j hj hy => (k.block j (Nat.lt_of_lt_of_le hj h.size) hy).trans (h.block j hj hy)⟩
theorem GrownMany.one {a b : World} {vs : List Value} {u : Value} (h : a.grownBy b u.ownBlock) (hu : u ∈ vs) : GrownMany a b vs :=
  ⟨h.os, h.tape, h.output, h.size, fun j hj hy => h.block j hj fun e => hy u hu e.symm⟩
theorem GrownMany.of {a b : World} {vs : List Value} (h : Below a.heap.size a b) : GrownMany a b vs := ⟨h.os, h.tape, h.output, h.size, fun j hj _ => h.block j hj⟩
theorem owns_many {w w' : World} {base : Nat} {e : TypeId} {size : Nat} {v : Value} {n : Nat} {xs vs : List Value} (h : w.ownsRow base e size v n xs) (hg : GrownMany w w' vs) (ha : ∀ y ∈ vs, Apart v y) : w'.ownsRow base e size v n xs := by
  refine ⟨h.1, ?_⟩
  rcases h.2 with hn | ⟨g, cap, cur, rfl, hb, hgg, rest⟩
  · exact .inl hn
  · refine .inr ⟨g, cap, cur, rfl, hb, ?_, rest⟩
    rw [hg.block g (Array.getElem?_eq_some_iff.1 hgg).1 (fun y hy e => by
      rcases ha y hy with h' | h'
      · simp [Value.ownBlock] at h'
      · exact h' (by rw [e]; rfl))]
    exact hgg
theorem OwnI.many {w w' : World} {base : Nat} {v : Value} {L : List Int} {vs : List Value} (h : OwnI w base v L) (hg : GrownMany w w' vs) (ha : ∀ y ∈ vs, Apart v y) : OwnI w' base v L := owns_many h hg ha
theorem OwnD.many {w w' : World} {base : Nat} {v : Value} {L : List (Int × Int)} {vs : List Value} (h : OwnD w base v L) (hg : GrownMany w w' vs) (ha : ∀ y ∈ vs, Apart v y) : OwnD w' base v L := owns_many h hg ha
theorem below_many {B : Nat} {w a b : World} {vs : List Value} (h : Below B w a) (hB0 : B ≤ w.heap.size) (hg : GrownMany a b vs) (hB : ∀ y ∈ vs, ∀ g, y.ownBlock = some g → B ≤ g) : Below B w b :=
  h.trans ⟨hg.os, hg.tape, hg.output, hg.size, fun k hk => hg.block k (by have := h.size; omega) fun y hy e => by have := hB y hy k e; omega⟩
theorem OwnRows.low {w : World} {B : Nat} {v : Value} {xs : List Value} {R : List (List Int)} (h : OwnRows w B v xs R) : ∀ y ∈ xs, ∀ g, y.ownBlock = some g → B ≤ g := by
  intro y hy g hg
  obtain ⟨j, hj⟩ := List.mem_iff_getElem?.1 hy
  have hjl : j < R.length := by rw [← h.len]; exact (List.getElem?_eq_some_iff.1 hj).1
  obtain ⟨o, c, h1, h2, _⟩ := h.rows j hjl
  rw [h1] at hj
  injection hj with hj
  subst hj
  exact (World.ownsRow.lt h2 g hg).1
/-- What the call made before, and what it makes behind, lies apart from all of it. -/
theorem OwnRows.before {w w' : World} {base size n : Nat} {e : TypeId} {u v : Value} {ys xs : List Value} {R : List (List Int)} (h : w.ownsRow base e size u n ys) (h' : OwnRows w' w.heap.size v xs R) : ∀ y ∈ xs, Apart u y := by
  intro y hy
  obtain ⟨j, hj⟩ := List.mem_iff_getElem?.1 hy
  have hjl : j < R.length := by rw [← h'.len]; exact (List.getElem?_eq_some_iff.1 hj).1
  obtain ⟨o, c, h1, h2, _⟩ := h'.rows j hjl
  rw [h1] at hj
  injection hj with hj
  subst hj
  exact apart_old h h2
theorem OwnRows.behind {w w' : World} {size n : Nat} {e : TypeId} {u v : Value} {ys xs : List Value} {R : List (List Int)} {B : Nat} (h : OwnRows w B v xs R) (h' : w'.ownsRow w.heap.size e size u n ys) : ∀ y ∈ xs, Apart u y := by
  intro y hy
  obtain ⟨j, hj⟩ := List.mem_iff_getElem?.1 hy
  have hjl : j < R.length := by rw [← h.len]; exact (List.getElem?_eq_some_iff.1 hj).1
  obtain ⟨o, c, h1, h2, _⟩ := h.rows j hjl
  rw [h1] at hj
  injection hj with hj
  subst hj
  exact (apart_old h2 h').symm

def sumL (R : List (List Int)) (i : Nat) : Nat := ((R.take i).map List.length).sum
theorem sumL_succ {R : List (List Int)} {i : Nat} (h : i < R.length) : sumL R (i + 1) = sumL R i + (row R i).length := by
  unfold sumL
  rw [List.take_add_one, row_eq h]
  simp
theorem sumL_mono {R : List (List Int)} : ∀ {i j : Nat}, i ≤ j → j ≤ R.length → sumL R i ≤ sumL R j := by
  intro i j hij
  induction j with
  | zero => intro _; have : i = 0 := by omega
            subst this; exact Nat.le_refl _
  | succ j ih =>
    intro hj
    rcases Nat.lt_or_ge i (j + 1) with h | h
    · rw [sumL_succ (by omega)]; have := ih (by omega) (by omega); omega
    · have : i = j + 1 := by omega
      subst this; exact Nat.le_refl _
def seqR (k : Int) (R : List (List Int)) : List (List Int) := (List.range R.length).map fun j => seqI (k + sumL R j) (row R j).length
theorem seqR_length (k : Int) (R : List (List Int)) : (seqR k R).length = R.length := by simp [seqR]
theorem seqR_row {k : Int} {R : List (List Int)} {j : Nat} (h : j < R.length) : row (seqR k R) j = seqI (k + sumL R j) (row R j).length := by simp [row, seqR, List.getD, h]
theorem rows_ext {R S : List (List Int)} (hl : R.length = S.length) (h : ∀ j, j < R.length → row R j = row S j) : R = S := by
  apply List.ext_getElem hl
  intro j h1 h2
  have := h j h1
  simp [row, List.getD, h1, h2] at this
  exact this

set_option maxHeartbeats 800000 in
theorem c_markIntSS (oa) (c B : Nat) (xs : List Value) (R : List (List Int)) (k0 : Int) (w : World) (h : OwnRows w B (.slice oa R.length c) xs R) (hR : R.length ≤ Room) (hk0 : 0 ≤ k0 ∧ k0 + sumL R R.length ≤ 1073741824) :
    Calls Try.prog 72 #[.slice oa R.length c, .int .i64 k0] w fun e w' => e = .returned (.int .i64 (k0 + sumL R R.length)) ∧ OwnRows w' B (.slice oa R.length c) xs (seqR k0 R) ∧ GrownMany w w' xs := by
  unfold Room at hR
  obtain ⟨h01, h02⟩ := hk0
  have HX : Hid (k0 + sumL R R.length ≤ 1073741824) := h02
  clear h02
  go_enter Try.func72, Try.ntmps72
  go_wp2
  go_loopw [1, 5] (fun k i wr => ∃ (j : Nat) (M : List (List Int)), k = .int .i64 (k0 + sumL R j) ∧ i = .int .i64 j ∧ j ≤ R.length ∧ M.length = R.length ∧ (∀ t, t < R.length → (row M t).length = (row R t).length) ∧ (∀ t, t < j → row M t = seqI (k0 + sumL R t) (row R t).length) ∧
    OwnRows wr B (.slice oa R.length c) xs M ∧ GrownMany w wr xs) (fun _ i _ => R.length - (intOf i).toNat)
  case atStart => exact ⟨0, R, by simp [sumL], rfl, Nat.zero_le _, rfl, fun _ _ => rfl, fun t ht => absurd ht (by omega), h, GrownMany.refl _ _⟩
  case round =>
    clear h
    obtain ⟨j, M, rfl, rfl, hj, hM, hlen, hall, hO, hg⟩ := hrel
    have HM : Hid (M.length = R.length) := hM
    have HL : Hid (∀ t, t < R.length → (row M t).length = (row R t).length) := hlen
    have HA : Hid (∀ t, t < j → row M t = seqI (k0 + sumL R t) (row R t).length) := hall
    clear hM hlen hall
    by_cases hlt : j < R.length
    · obtain ⟨g, rfl, hBg, hgl, hcell⟩ := hO.at_ (by have := HM.out; omega)
      obtain ⟨o, c', h1, h2, h3⟩ := hO.rows j (by have := HM.out; omega)
      have hc1 := (hcell j (by have := HM.out; omega)).trans h1
      have hmono := sumL_mono (R := R) (i := j + 1) (j := R.length) (by omega) (Nat.le_refl _)
      have hsucc := sumL_succ hlt
      have hrl : (row M j).length ≤ 1073741824 := by have := HL.out j hlt; have := HX.out; omega
      have hk : 0 ≤ k0 + (sumL R j : Int) ∧ k0 + (sumL R j : Int) ≤ 1073741824 := by have := HX.out; omega
      have HS : Hid (sumL R (j + 1) = sumL R j + (row R j).length) := hsucc
      clear hcell hmono hsucc
      go_wp2_with fail
      refine (c_markIntS _ _ B _ _ hk _ hrl h2).mono ?_
      rintro e w1 ⟨rfl, hI, hg1⟩
      have HO2 : Hid (OwnRows w1 B (.slice (some ⟨g, 0, none⟩) R.length c) xs (M.set j (seqI (k0 + sumL R j) (row M j).length))) := by
        refine ⟨by rw [List.length_set]; exact hO.len, World.ownsRow.kept hO.outer hg1 h3, fun t ht => ?_, fun i t hi ht => hO.pair i t hi (by rw [List.length_set] at ht; exact ht)⟩
        rw [List.length_set] at ht
        by_cases e : t = j
        · subst e
          have er : row (M.set t (seqI (k0 + sumL R t) (row M t).length)) t = seqI (k0 + sumL R t) (row M t).length := by simp [row, List.getD, List.getElem?_set_self ht]
          rw [er, seqI_length]
          exact ⟨o, c', h1, hI, h3⟩
        · have er : row (M.set j (seqI (k0 + sumL R j) (row M j).length)) t = row M t := by simp [row, List.getD, List.getElem?_set_ne (Ne.symm e)]
          rw [er]
          obtain ⟨o2, c2, q1, q2, q3⟩ := hO.rows t ht
          refine ⟨o2, c2, q1, q2.far hg1 ?_, q3⟩
          rcases Nat.lt_or_ge t j with h' | h'
          · exact hO.pair t j h' (by have := HM.out; omega) _ _ q1 h1
          · exact (hO.pair j t (by omega) ht _ _ h1 q1).symm
      have HG : Hid (GrownMany w w1 xs) := hg.trans (GrownMany.one hg1 (List.mem_iff_getElem?.2 ⟨j, h1⟩))
      clear hO hg hI hg1 h1 h2 h3
      go_wp2
      go_roundw
      case rel =>
        refine ⟨j + 1, _, ?_, by go_num, by omega, by rw [List.length_set]; exact HM.out, fun t ht => ?_, ?_, HO2.out, HG.out⟩
        · rw [HS.out]; have := HL.out j hlt; simp; omega
        · by_cases e : t = j
          · subst e
            have er : row (M.set t (seqI (k0 + sumL R t) (row M t).length)) t = seqI (k0 + sumL R t) (row M t).length := by simp [row, List.getD, List.getElem?_set_self (show t < M.length by have := HM.out; omega)]
            rw [er, seqI_length]; exact HL.out t ht
          · have er : row (M.set j (seqI (k0 + sumL R j) (row M j).length)) t = row M t := by simp [row, List.getD, List.getElem?_set_ne (Ne.symm e)]
            rw [er]; exact HL.out t ht
        · refine lt_step (fun t ht => ?_) ?_
          · have er : row (M.set j (seqI (k0 + sumL R j) (row M j).length)) t = row M t := by simp [row, List.getD, List.getElem?_set_ne (show j ≠ t by omega)]
            rw [er]; exact HA.out t ht
          · have er : row (M.set j (seqI (k0 + sumL R j) (row M j).length)) j = seqI (k0 + sumL R j) (row M j).length := by simp [row, List.getD, List.getElem?_set_self (show j < M.length by have := HM.out; omega)]
            rw [er, HL.out j hlt]
      case measure => simp [intOf]; omega
    · have hjj : j = R.length := by omega
      have HJ : Hid (j = R.length) := hjj
      have HV : Hid (M = seqR k0 R) := rows_ext (by rw [seqR_length]; exact HM.out) fun t ht => by
        have h1 := HM.out
        rw [seqR_row (by omega)]
        exact HA.out t (by omega)
      clear hjj
      go_wp2
      go_ret
      exact ⟨ret_int (by rw [HJ.out]), by rw [← HV.out]; exact hO, hg⟩
theorem c_heldIntSS (oa) (c : Nat) (R : List (List Int)) (k0 : Int) (w : World) (hR : RowsAt w oa (seqR k0 R)) (hk0 : 0 ≤ k0 ∧ k0 + sumL R R.length ≤ 1073741824) :
    Ans Try.prog 73 #[.slice oa R.length c, .int .i64 k0] w (.int .i64 (k0 + sumL R R.length)) := by
  unfold Ans
  have hn : R.length ≤ 1073741824 := by have := hR.len; rw [seqR_length] at this; exact this
  obtain ⟨h01, h02⟩ := hk0
  have HX : Hid (k0 + sumL R R.length ≤ 1073741824) := h02
  clear h02
  go_enter Try.func73, Try.ntmps73
  go_wp2
  go_loopw [1, 5] (fun k i wr => ∃ j : Nat, k = .int .i64 (k0 + sumL R j) ∧ i = .int .i64 j ∧ j ≤ R.length ∧ Below w.heap.size w wr) (fun _ i _ => R.length - (intOf i).toNat)
  case atStart => exact ⟨0, by simp [sumL], rfl, Nat.zero_le _, Below.refl _ _⟩
  case round =>
    obtain ⟨j, rfl, rfl, hj, hb⟩ := hrel
    by_cases hlt : j < R.length
    · obtain ⟨b, off, rfl, hbs, hca⟩ := hR.at_ (by rw [seqR_length]; omega)
      obtain ⟨o, c', h1, h2⟩ := hca j (by rw [seqR_length]; omega)
      rw [seqR_row hlt, seqI_length] at h1
      rw [seqR_row hlt] at h2
      have hc1 := cell_keep h1 hb
      have hmono := sumL_mono (R := R) (i := j + 1) (j := R.length) (by omega) (Nat.le_refl _)
      have HS : Hid (sumL R (j + 1) = sumL R j + (row R j).length) := sumL_succ hlt
      have hk : 0 ≤ k0 + (sumL R j : Int) ∧ k0 + (sumL R j : Int) ≤ 1073741824 := by have := HX.out; have := HS.out; omega
      clear hca h1 hmono
      go_wp2_with fail
      refine Calls.mono (c_heldIntS _ _ _ _ hk _ (h2.keep hb)) ?_
      rintro e w1 ⟨rfl, hbn⟩
      replace hb := bel_to hb hbn
      clear hbn hc1 h2
      go_wp2
      go_roundw
      case rel => exact ⟨j + 1, by rw [HS.out]; simp; omega, by go_num, by omega, hb⟩
      case measure => simp [intOf]; omega
    · have hjj : j = R.length := by omega
      have HJ : Hid (j = R.length) := hjj
      clear hjj
      go_wp2
      go_ret
      exact ⟨ret_int (by rw [HJ.out]), hb⟩
end Go.Proofs.Ytkanbnbofoabeaa
namespace Go.Proofs.Ytkanbnbofoabeaa
open Go.RowKit
set_option linter.unusedVariables false
set_option maxRecDepth 100000

set_option maxHeartbeats 800000 in
theorem c_toIntSSo (oa) (ca : Nat) (R : List (List Int)) (w : World) (hR : RowsAt w oa R) :
    Calls Try.prog 78 #[.slice oa R.length ca] w fun e w' => ∃ o c xs, e = .returned (.slice o R.length c) ∧ OwnRows w' w.heap.size (.slice o R.length c) xs R ∧ Below w.heap.size w w' := by
  have hn : R.length ≤ 1073741824 := hR.len
  obtain ⟨i0, hi, hz0, hz1, hz2⟩ := info_parts info_ints
  go_enter Try.func78, Try.ntmps78
  go_wp2_with (first | (at_make; refine wpList_make_full _ rfl _ _ 26 rfl w.heap.size 69 i0 (.slice none 0 0) 1 Try.underlying26 hi hz0 hz1 .i64 .i64 _ _ R.length rfl rfl rfl rfl (by rw [hz2]; omega) (by unfold maxLen; omega) (Nat.le_refl _) ?_; intro w1 hown hgrow))
  have hI := ownV_made hown
  have hb1 : Below w.heap.size w w1 := below_grown hgrow (Nat.le_refl _) (by simp)
  clear hown hgrow hi hz0 hz1 hz2 i0
  go_loopw [4] (fun i wr => ∃ (k : Nat) (xs : List Value), i = .int .i64 k ∧ k ≤ R.length ∧ xs.length = R.length ∧ (∀ j, j < k → ∃ o c, xs[j]? = some (.slice o (row R j).length c) ∧ OwnI wr (w.heap.size + 1) (.slice o (row R j).length c) (row R j)) ∧ (∀ i j, i < j → j < k → ∀ u u', xs[i]? = some u → xs[j]? = some u' → Apart u u') ∧
      OwnV wr w.heap.size (.slice (some ⟨w.heap.size, 0, none⟩) R.length R.length) xs ∧ Below w.heap.size w wr) (fun i _ => R.length - (intOf i).toNat)
  case atStart => exact ⟨0, _, rfl, Nat.zero_le _, by simp, fun j hj => absurd hj (by omega), fun i j _ hj => absurd hj (by omega), hI, hb1⟩
  case round =>
    clear hI hb1
    obtain ⟨k, xs, rfl, hk, hM, hall, hpair, hI, hb⟩ := hrel
    have HM : Hid (xs.length = R.length) := hM
    have HA : Hid (∀ j, j < k → ∃ o c, xs[j]? = some (.slice o (row R j).length c) ∧ OwnI wr (w.heap.size + 1) (.slice o (row R j).length c) (row R j)) := hall
    have HP : Hid (∀ i j, i < j → j < k → ∀ u u', xs[i]? = some u → xs[j]? = some u' → Apart u u') := hpair
    clear hall hM hpair
    by_cases hlt : k < R.length
    · obtain ⟨b, off, rfl, hbs, hc⟩ := hR.at_ (by omega)
      obtain ⟨o, c, hc0, hrow⟩ := hc k hlt
      have hc1 := cell_keep hc0 hb
      have hgl := (World.ownsRow.lt hI w.heap.size rfl).2
      clear hc hc0
      go_wp2_with fail
      refine (c_toIntS _ _ _ _ (hrow.keep hb)).mono ?_
      rintro en w1 ⟨v1, rfl, h1, hbn⟩
      obtain ⟨o1, c1, rfl⟩ := h1.shape
      have hwr : OwnI wr w.heap.size (.slice o1 (row R k).length c1) (row R k) → True := fun _ => trivial
      have HP2 : Hid (∀ i, i < k → ∀ u, xs[i]? = some u → Apart u (.slice o1 (row R k).length c1)) := fun i hi u hu => by
        obtain ⟨o', c', q1, q2⟩ := HA.out i hi
        rw [q1] at hu
        injection hu with hu
        subst hu
        exact apart_old q2 h1
      replace hI := hI.keep hbn
      replace hb := bel_to hb hbn
      obtain ⟨hg1, hg2⟩ := hI.cell HM.out.symm k hlt
      rw [List.getElem?_eq_getElem (by have := HM.out; omega)] at hg1
      have hapart : ∀ {v : Value} {L : List Int}, OwnI w1 (w.heap.size + 1) v L → OwnI (w1.setCell ⟨w.heap.size, k, none⟩ (.slice o1 (row R k).length c1)) (w.heap.size + 1) v L := fun {v L} hv =>
        World.ownsRow.kept hv (grown_set w1 w.heap.size k _) (by
          cases e : v.ownBlock with
          | none => exact .inl rfl
          | some b => exact .inr (fun e' => by injection e' with e'; have := (World.ownsRow.lt hv b e).1; omega))
      have HI2 := (show Hid _ from hI.store HM.out.symm k (.slice o1 (row R k).length c1) rfl)
      have HB2 := (show Hid _ from Below.setCell (p := (⟨w.heap.size, k, none⟩ : Addr)) hb (Nat.le_refl _) (.slice o1 (row R k).length c1))
      have HR2 : Hid (OwnI (w1.setCell ⟨w.heap.size, k, none⟩ (.slice o1 (row R k).length c1)) (w.heap.size + 1) (.slice o1 (row R k).length c1) (row R k)) := hapart (h1.based (by omega))
      have HA2 : Hid (∀ j, j < k → ∃ o c, xs[j]? = some (.slice o (row R j).length c) ∧ OwnI (w1.setCell ⟨w.heap.size, k, none⟩ (.slice o1 (row R k).length c1)) (w.heap.size + 1) (.slice o (row R j).length c) (row R j)) := fun j hj => by
        obtain ⟨o', c', h1', h2'⟩ := HA.out j hj
        exact ⟨o', c', h1', hapart (h2'.keep hbn)⟩
      clear h1 hbn HA hI hb hapart hwr
      generalize hxk : xs[k]'(by have := HM.out; omega) = xk at hg1
      go_wp2
      go_roundw
      case rel =>
        refine ⟨k + 1, xs.set k (.slice o1 (row R k).length c1), by go_num, by omega, by rw [List.length_set]; exact HM.out, ?_, ?_, HI2.out, HB2.out⟩
        · refine lt_step (fun j hj => ?_) ⟨o1, c1, ?_, HR2.out⟩
          · obtain ⟨o', c', h1', h2'⟩ := HA2.out j hj
            exact ⟨o', c', by rw [List.getElem?_set_ne (by omega)]; exact h1', h2'⟩
          · rw [List.getElem?_set_self (by have := HM.out; omega)]
        · intro i j hij hj u u' hu hu'
          rw [List.getElem?_set_ne (by omega)] at hu
          by_cases e : j = k
          · subst e
            rw [List.getElem?_set_self (by have := HM.out; omega)] at hu'
            injection hu' with hu'
            subst hu'
            exact HP2.out i hij u hu
          · rw [List.getElem?_set_ne (by omega)] at hu'
            exact HP.out i j hij (by omega) u u' hu hu'
      case measure => simp [intOf]; omega
    · have hkk : k = R.length := by omega
      have HK : Hid (k = R.length) := hkk
      clear hkk
      go_wp2
      go_ret
      refine ⟨_, _, xs, rfl, ⟨HM.out, hI, fun j hj => ?_, fun i j hij hj => HP.out i j hij (by have := HK.out; omega)⟩, hb⟩
      obtain ⟨o', c', h1', h2'⟩ := HA.out j (by have := HK.out; omega)
      refine ⟨o', c', h1', h2'.based (by omega), ?_⟩
      cases e : (Value.slice o' (row R j).length c').ownBlock with
      | none => exact Apart.symm (.inl e)
      | some b =>
        have h3 := (World.ownsRow.lt h2' b e).1
        exact .inr (fun e' => by
          rw [e] at e'
          simp [Value.ownBlock] at e'
          omega)

theorem OwnRows.cap {w : World} {B : Nat} {oa : Option Addr} {c : Nat} {xs : List Value} {R : List (List Int)} (h : OwnRows w B (.slice oa R.length c) xs R) : R.length ≤ c := by
  obtain ⟨oa', c', e, hg⟩ := owns_cells h.outer
  simp only [Value.slice.injEq] at e
  obtain ⟨rfl, _, rfl⟩ := e
  rcases Nat.eq_zero_or_pos R.length with h0 | h0
  · omega
  · obtain ⟨_, _, _, _, h4, _⟩ := hg (by rw [h.len]; exact h0)
    rw [h.len] at h4; exact h4
theorem cell_many {w w' : World} {B j base : Nat} {u : Value} {vs : List Value} (h : w.cell? ⟨B, j, none⟩ = some u) (hg : GrownMany w w' vs) (low : ∀ y ∈ vs, ∀ g, y.ownBlock = some g → base ≤ g) (hB : B < base) : w'.cell? ⟨B, j, none⟩ = some u :=
  (World.cell?_of_block (hg.block B (World.block_lt_of_cell? w ⟨B, j, none⟩ h) (fun y hy e => by have := low y hy B e; omega))).trans h
theorem OwnRows.far_set {w : World} {B g : Nat} {v : Value} {xs : List Value} {R : List (List Int)} (h : OwnRows w B v xs R) (j : Nat) (u : Value) (hg : g < B) : OwnRows (w.setCell ⟨g, j, none⟩ u) B v xs R := by
  have hk : ∀ {e : TypeId} {size n : Nat} {y : Value} {zs : List Value}, w.ownsRow B e size y n zs → (w.setCell ⟨g, j, none⟩ u).ownsRow B e size y n zs := fun {e size n y zs} hy =>
    World.ownsRow.kept hy (grown_set w g j _) (by
      cases e : y.ownBlock with
      | none => exact .inl rfl
      | some b => exact .inr (fun e' => by injection e' with e'; have := (World.ownsRow.lt hy b e).1; omega))
  exact ⟨h.len, hk h.outer, fun t ht => by
    obtain ⟨o, c, h1, h2, h3⟩ := h.rows t ht
    exact ⟨o, c, h1, hk h2, h3⟩, h.pair⟩
theorem c_toTableO (n : Int) (oa) (ca : Nat) (R : List (List Int)) (w : World) (hR : RowsAt w oa R) :
    Calls Try.prog 28 #[.agg #[.int .i64 n, .slice oa R.length ca]] w fun e w' => ∃ o c xs, e = .returned (.agg #[.int .i64 n, .slice o R.length c]) ∧ OwnRows w' w.heap.size (.slice o R.length c) xs R ∧ Below w.heap.size w w' := by
  have hb0 := ((((Below.refl w.heap.size w).alloc (Nat.le_refl _) (.cells #[.int .i64 n, .slice oa R.length ca] 40)).alloc (by simp) (.cells #[.int .i64 0, .slice none 0 0] 28)).alloc (by simp; omega) (.cells #[.int .i64 n, .slice none 0 0] 28))
  go_enter Try.func28, Try.ntmps28
  go_wp2_with fail
  refine (c_toIntSSo _ _ _ _ (hR.keep hb0)).mono ?_
  rintro e w1 ⟨o, c, xs, rfl, hN, hbn⟩
  have k1 : Blk w1 (w.heap.size + 1) #[.int .i64 0, .slice none 0 0] 28 := by
    have := (Blk.new (w.alloc (.cells #[.int .i64 n, .slice oa R.length ca] 40)) #[.int .i64 0, .slice none 0 0] 28).alloc (.cells #[.int .i64 n, .slice none 0 0] 28)
    simp only [World.size_alloc] at this
    exact this.keep hbn
  have k2 : Blk w1 (w.heap.size + 1 + 1) #[.int .i64 n, .slice none 0 0] 28 := by
    have := Blk.new ((w.alloc (.cells #[.int .i64 n, .slice oa R.length ca] 40)).alloc (.cells #[.int .i64 0, .slice none 0 0] 28)) #[.int .i64 n, .slice none 0 0] 28
    simp only [World.size_alloc] at this
    exact this.keep hbn
  have a10 := k1.cell 0 _ rfl
  have a11 := k1.cell 1 _ rfl
  have f10 := k1.free 0
  have f11 := k1.free 1
  have a20 := k2.cell 0 _ rfl
  have a21 := k2.cell 1 _ rfl
  have f20 := k2.free 0
  have f21 := k2.free 1
  replace hb0 := bel_to hb0 hbn
  clear hbn k1 k2
  go_wp2
  exact bodyPost_ret (v := .agg #[.int .i64 n, .slice o R.length c]) (by simp [results, Try.results28, go_sem, a10, a11, a20, a21]) rfl
    ⟨o, c, xs, rfl, (((hN.far_set 1 _ (by simp)).far_set 0 _ (by simp)).far_set 1 _ (by simp)).based (by simp; omega), Below.setCell (Below.setCell (Below.setCell hb0 (by simp; omega) _) (by simp) _) (by simp) _⟩
theorem c_markTable (n : Int) (oa) (c B : Nat) (xs : List Value) (R : List (List Int)) (k0 : Int) (w : World) (h : OwnRows w B (.slice oa R.length c) xs R) (hR : R.length ≤ Room) (hk0 : 0 ≤ k0 ∧ k0 + sumL R R.length ≤ 1073741824) :
    Calls Try.prog 24 #[.agg #[.int .i64 n, .slice oa R.length c], .int .i64 k0] w fun e w' => e = .returned (.int .i64 (k0 + sumL R R.length)) ∧ OwnRows w' B (.slice oa R.length c) xs (seqR k0 R) ∧ GrownMany w w' xs := by
  have hb := (Below.refl w.heap.size w).alloc (Nat.le_refl _) (.cells #[.int .i64 n, .slice oa R.length c] 28)
  go_enter Try.func24, Try.ntmps24
  go_wp2_with fail
  refine (c_markIntSS _ _ B xs _ _ _ (h.keep hb) hR hk0).mono ?_
  rintro e w1 ⟨rfl, hO, hg⟩
  have HG : Hid (GrownMany w w1 xs) := (GrownMany.of hb).trans hg
  clear hg hb h
  go_wp2
  go_ret
  exact ⟨rfl, hO, HG.out⟩
theorem c_heldTable (n : Int) (oa) (c : Nat) (R : List (List Int)) (k0 : Int) (w : World) (hR : RowsAt w oa (seqR k0 R)) (hk0 : 0 ≤ k0 ∧ k0 + sumL R R.length ≤ 1073741824) :
    Ans Try.prog 25 #[.agg #[.int .i64 n, .slice oa R.length c], .int .i64 k0] w (.int .i64 (k0 + sumL R R.length)) := by
  unfold Ans
  have hb := (Below.refl w.heap.size w).alloc (Nat.le_refl _) (.cells #[.int .i64 n, .slice oa R.length c] 28)
  have hlt : ¬ (k0 + (sumL R R.length : Int) < 0) := by have := hk0.1; omega
  have hlt2 : decide (k0 + (sumL R R.length : Int) < 0) = false := decide_eq_false hlt
  go_enter Try.func25, Try.ntmps25
  go_wp2_with (first | (go_at_call 73; refine Calls.mono (c_heldIntSS _ _ _ _ _ (hR.keep hb) hk0) ?_; rintro e w1 ⟨rfl, hbn⟩; replace hb := bel_to (w := w) (by first | exact hb | exact hb.alloc hb.size _ | exact (hb.alloc hb.size _).alloc (Nat.le_trans hb.size (by simp)) _ | exact hb.setCell (by simp [hb.size]) _) hbn; clear hbn))
  go_ret
  exact ⟨rfl, hb⟩
end Go.Proofs.Ytkanbnbofoabeaa
namespace Go.Proofs.Ytkanbnbofoabeaa
open Go.RowKit
set_option linter.unusedVariables false
set_option maxRecDepth 100000

def sumN (Ln : Nat → Nat) (k : Nat) : Nat := ((List.range k).map Ln).sum
theorem sumN_succ (Ln : Nat → Nat) (k : Nat) : sumN Ln (k + 1) = sumN Ln k + Ln k := by unfold sumN; rw [List.range_succ]; simp
theorem sumN_one {Ln : Nat → Nat} : ∀ {n r : Nat}, r < n → Ln r ≤ sumN Ln n
  | 0, r, h => absurd h (by omega)
  | n + 1, r, h => by
    rw [sumN_succ]
    rcases Nat.lt_or_ge r n with h' | h'
    · have := sumN_one (Ln := Ln) h'; omega
    · have : r = n := by omega
      subst this; omega
theorem sumL_sumN {R : List (List Int)} {Ln : Nat → Nat} (h : ∀ r, r < R.length → (row R r).length = Ln r) : ∀ k, k ≤ R.length → sumL R k = sumN Ln k
  | 0, _ => by simp [sumL, sumN]
  | k + 1, hk => by rw [sumL_succ (by omega), sumN_succ, sumL_sumN h k (by omega), h k (by omega)]
theorem RowsIn.reads {w : World} {oa : Option Addr} {n : Nat} {Ln : Nat → Nat} (h : RowsIn w oa n Ln) (hn : n ≤ Room) (hL : ∀ r, r < n → Ln r ≤ Room) : ∃ R : List (List Int), R.length = n ∧ RowsAt w oa R ∧ ∀ r, r < n → (row R r).length = Ln r := by
  rcases Nat.eq_zero_or_pos n with h0 | h0
  · exact ⟨[], by simp [h0], ⟨by simp, fun h => absurd h (by simp)⟩, fun r hr => absurd hr (by omega)⟩
  · obtain ⟨b, off, e, hb, hr⟩ := h.rows h0
    have each : ∀ r, r < n → ∃ L : List Int, L.length = Ln r ∧ ∃ o c, w.cell? ⟨b, off + r, none⟩ = some (.slice o (Ln r) c) ∧ IntsAt w o L := fun r hrn => by
      obtain ⟨_, o, c, h1, h2⟩ := hr r hrn
      obtain ⟨L, h3, h4⟩ := h2 (hL r hrn)
      exact ⟨L, h3, o, c, h1, h4⟩
    have hch : ∃ f : Nat → List Int, ∀ r, r < n → (f r).length = Ln r ∧ ∃ o c, w.cell? ⟨b, off + r, none⟩ = some (.slice o (Ln r) c) ∧ IntsAt w o (f r) :=
      ⟨fun r => if hr : r < n then Classical.choose (each r hr) else [], fun r hr => by simp only [hr, dif_pos]; exact Classical.choose_spec (each r hr)⟩
    obtain ⟨f, hf⟩ := hch
    have er : ∀ k, k < n → row ((List.range n).map f) k = f k := fun k hk => by simp [row, List.getD, hk]
    refine ⟨(List.range n).map f, by simp, ⟨by simpa using hn, fun _ => ⟨b, off, e, hb, fun k hk => ?_⟩⟩, fun r hr => by rw [er r hr]; exact (hf r hr).1⟩
    have hk : k < n := by simpa using hk
    obtain ⟨h1, o, c, h2, h3⟩ := hf k hk
    exact ⟨o, c, by rw [er k hk, h1]; exact h2, by rw [er k hk]; exact h3⟩

theorem c_szIntSSs (oa) (n cap : Nat) (Ln : Nat → Nat) (w : World) (h : RowsIn w oa n Ln) :
    Calls Try.prog 74 #[.slice oa n cap, .int .i64 1048576] w fun e w' => (∃ x : Int, e = .returned (.int .i64 x) ∧ (x = -1 ∨ (0 ≤ x ∧ x ≤ 1048576 ∧ n ≤ 1048576 ∧ (n : Int) + sumN Ln n ≤ 1048576))) ∧ Below w.heap.size w w' := by
  have hn := h.len
  unfold maxLen at hn
  by_cases hbig : (1048576 : Int) < n
  · go_enter Try.func74, Try.ntmps74
    go_wp2
    go_ret
    exact ⟨⟨_, rfl, .inl rfl⟩, Below.refl _ _⟩
  go_enter Try.func74, Try.ntmps74
  go_wp2
  go_loopw [1, 5] (fun l i wr => ∃ (x : Int) (k : Nat), l = .int .i64 x ∧ i = .int .i64 k ∧ k ≤ n ∧ 0 ≤ x ∧ x ≤ 1048576 ∧ x + (n : Int) + sumN Ln k = 1048576 ∧ Below w.heap.size w wr) (fun _ i _ => n - (intOf i).toNat)
  case atStart => exact ⟨_, 0, rfl, rfl, Nat.zero_le _, by omega, by omega, by simp [sumN], Below.refl _ _⟩
  case round =>
    obtain ⟨x, k, rfl, rfl, hk, hx0, hx1, hall, hb⟩ := hrel
    have HA : Hid (x + (n : Int) + sumN Ln k = 1048576) := hall
    have HS : Hid (sumN Ln (k + 1) = sumN Ln k + Ln k) := sumN_succ Ln k
    clear hall
    by_cases hlt : k < n
    · obtain ⟨b, off, rfl, hbs, hc⟩ := h.rows (by omega)
      obtain ⟨hm, o, c, hc0, _⟩ := hc k hlt
      have hc1 := cell_keep hc0 hb
      clear hc hc0
      by_cases hle : (Ln k : Int) ≤ x
      · have e : (if (Ln k : Int) ≤ x then x - Ln k else -1) = x - Ln k := if_pos hle
        go_wp2_with fail
        refine (show Ans _ _ _ _ (.int .i64 (x - Ln k)) from e ▸ c_szIntS _ _ _ _ ⟨hx0, hx1⟩ hm _).mono ?_
        rintro en w1 ⟨rfl, hbn⟩
        replace hb := bel_to hb hbn
        clear hbn e
        go_wp2
        go_roundw
        case rel => exact ⟨x - Ln k, k + 1, rfl, by go_num, by omega, by omega, by omega, (by have h1 := HA.out; have h2 := HS.out; omega), hb⟩
        case measure => simp [intOf]; omega
      · have e : (if (Ln k : Int) ≤ x then x - Ln k else -1) = -1 := if_neg hle
        go_wp2_with fail
        refine (show Ans _ _ _ _ (.int .i64 (-1)) from e ▸ c_szIntS _ _ _ _ ⟨hx0, hx1⟩ hm _).mono ?_
        rintro en w1 ⟨rfl, hbn⟩
        replace hb := bel_to hb hbn
        clear hbn e
        go_wp2
        go_ret
        exact ⟨⟨_, rfl, .inl rfl⟩, hb⟩
    · have hkk : k = n := by omega
      have HK : Hid (k = n) := hkk
      clear hkk
      go_wp2
      go_ret
      exact ⟨⟨_, rfl, .inr ⟨hx0, hx1, by omega, (by have h1 := HA.out; have h2 := HK.out; rw [h2] at h1; omega)⟩⟩, hb⟩

theorem c_szTables (n : Int) (oa) (l cap : Nat) (Ln : Nat → Nat) (w : World) (h : RowsIn w oa l Ln) :
    Calls Try.prog 26 #[.agg #[.int .i64 n, .slice oa l cap], .int .i64 1048576] w fun e w' => (∃ x : Int, e = .returned (.int .i64 x) ∧ (x = -1 ∨ (0 ≤ x ∧ x ≤ 1048576 ∧ l ≤ 1048576 ∧ (l : Int) + sumN Ln l ≤ 1048576))) ∧ Below w.heap.size w w' := by
  have hb := (Below.refl w.heap.size w).alloc (Nat.le_refl _) (.cells #[.int .i64 n, .slice oa l cap] 40)
  have h2 : RowsIn (w.alloc (.cells #[.int .i64 n, .slice oa l cap] 40)) oa l Ln := ⟨h.len, fun h0 => by
    obtain ⟨b, off, e, hlt, hr⟩ := h.rows h0
    have hk := (Below.refl w.heap.size w).alloc (Nat.le_refl _) (.cells #[.int .i64 n, .slice oa l cap] 40)
    exact ⟨b, off, e, Nat.lt_of_lt_of_le hlt hk.size, fun r hrl => by
      obtain ⟨m, o, c, h1, h2⟩ := hr r hrl
      exact ⟨m, o, c, cell_keep h1 hk, fun hq => by
        obtain ⟨L, e1, e2⟩ := h2 hq
        exact ⟨L, e1, e2.keep hk⟩⟩⟩⟩
  go_enter Try.func26, Try.ntmps26
  go_wp2_with fail
  refine (c_szIntSSs _ _ _ _ _ h2).mono ?_
  rintro e w1 ⟨⟨x, rfl, hx⟩, hbn⟩
  replace hb := bel_to hb hbn
  clear hbn
  rcases hx with rfl | ⟨h0, h1, h3, h4⟩
  · go_wp2
    go_ret
    exact ⟨⟨_, rfl, .inl rfl⟩, hb⟩
  · go_wp2
    go_ret
    exact ⟨⟨_, rfl, .inr ⟨h0, h1, h3, h4⟩⟩, hb⟩
end Go.Proofs.Ytkanbnbofoabeaa
namespace Go.Proofs.Ytkanbnbofoabeaa
open Go.ChangeShapes Go.WideShapes Go.ChangeAt Go.RowKit
set_option linter.unusedVariables false
set_option maxRecDepth 100000

theorem open_ints {H : Type} {enc : TypeId × Value → H} {W : World} {base : Nat} {held : Bool} {v : Value} {d : DataW H} {ps : List MemPlace} (hok : Value.okWide Try.prog W .any base 69 v)
    (h : DataW.Trod enc Try.prog W 0 (fun _ => true) held 69 v d ps) : InInts W v := by
  obtain ⟨a0, len0, cap0, rfl⟩ := okWide_slice Try.underlying69 hok
  obtain ⟨fuel, hf⟩ := h
  rcases Go.ChangeShapes.open_ints Try.underlying69 Try.underlying3 (by kernel_rfl) hf with ⟨hcs, _⟩ | ⟨x, l, c, zs, hcs, _, hl, hm, hz, _, hcell, hwz⟩
  · simp [Value.cells] at hcs
    obtain ⟨rfl, rfl, rfl⟩ := hcs
    exact ⟨_, _, _, [], rfl, .inl ⟨rfl, rfl, rfl, rfl⟩⟩
  · simp [Value.cells] at hcs
    obtain ⟨rfl, rfl, rfl⟩ := hcs
    exact ⟨_, _, _, zs, rfl, .inr ⟨_, rfl, hl, hm, by simpa using hz, hcell, hwz⟩⟩
end Go.Proofs.Ytkanbnbofoabeaa
namespace Go.Proofs.Ytkanbnbofoabeaa
open Go.RowKit
set_option linter.unusedVariables false
set_option maxRecDepth 100000

theorem room_of {n : Nat} (h : (n : Int) ≤ 1048576) : n ≤ Room := by unfold Room; omega
theorem c_toDep (l r : Int) (w : World) : Ans Try.prog 19 #[.agg #[.int .i64 l, .int .i64 r]] w (.agg #[.int .i64 l, .int .i64 r]) := by
  unfold Ans
  go_enter Try.func19, Try.ntmps19
  go_wp2
  exact bodyPost_ret (v := .agg #[.int .i64 l, .int .i64 r]) (by simp [results, Try.results19, go_sem]) rfl ⟨rfl, (((Below.refl _ _).alloc (Nat.le_refl _) _).alloc (by simp) _).alloc (by simp; omega) _⟩
def depEqB (a b c d : Int) : Bool := decide (a = c ∧ b = d)
theorem c_eqDep (a b c d : Int) (w : World) : Ans Try.prog 49 #[.agg #[.int .i64 a, .int .i64 b], .agg #[.int .i64 c, .int .i64 d]] w (.bool (depEqB a b c d)) := by
  unfold Ans
  have hB : Below w.heap.size w ((w.alloc (.cells #[.int .i64 a, .int .i64 b] 33)).alloc (.cells #[.int .i64 c, .int .i64 d] 33)) := ((Below.refl _ _).alloc (Nat.le_refl _) _).alloc (by simp) _
  by_cases h1 : a = c
  · have e1 : (a != c) = false := by simp [h1]
    by_cases h2 : b = d
    · have e2 : (b != d) = false := by simp [h2]
      have HV : Hid (depEqB a b c d = true) := by simp [depEqB, h1, h2, Hid]
      clear h1 h2
      go_enter Try.func49, Try.ntmps49
      go_wp2
      go_ret
      exact ⟨ret_bool HV.out.symm, hB⟩
    · have e2 : (b != d) = true := by simp [h2]
      have HV : Hid (depEqB a b c d = false) := by simp [depEqB, h2, Hid]
      clear h1 h2
      go_enter Try.func49, Try.ntmps49
      go_wp2
      go_ret
      exact ⟨ret_bool HV.out.symm, hB⟩
  · have e1 : (a != c) = true := by simp [h1]
    have HV : Hid (depEqB a b c d = false) := by simp [depEqB, h1, Hid]
    clear h1
    go_enter Try.func49, Try.ntmps49
    go_wp2
    go_ret
    exact ⟨ret_bool HV.out.symm, hB⟩

theorem dlist_ext {L M : List (Int × Int)} (hl : L.length = M.length) (h : ∀ k, k < L.length → nl L k = nl M k ∧ nr L k = nr M k) : L = M := by
  apply List.ext_getElem?
  intro k
  by_cases hk : k < L.length
  · rw [dnth_eq hk, dnth_eq (by omega), (h k hk).1, (h k hk).2]
  · rw [List.getElem?_eq_none (by omega), List.getElem?_eq_none (by omega)]

theorem c_eqDepS (oa ob) (ca cb : Nat) (L M : List (Int × Int)) (w : World) (hL : DepsAt w oa L) (hM : DepsAt w ob M) :
    Ans Try.prog 22 #[.slice oa L.length ca, .slice ob M.length cb] w (.bool (decide (L = M))) := by
  unfold Ans
  have hn : L.length ≤ 1073741824 := hL.len
  by_cases hlen : L.length = M.length
  · have hb0 : ((L.length : Int) != (M.length : Int)) = false := by simp [hlen]
    have HL : Hid (L.length = M.length) := hlen
    have hlm : L.length ≤ M.length := by omega
    clear hlen
    go_enter Try.func22, Try.ntmps22
    go_wp2
    go_loopw [5] (fun i wr => ∃ k : Nat, i = .int .i64 k ∧ k ≤ L.length ∧ (∀ j, j < k → nl L j = nl M j ∧ nr L j = nr M j) ∧ Below w.heap.size w wr) (fun i _ => L.length - (intOf i).toNat)
    case atStart => exact ⟨0, rfl, Nat.zero_le _, fun j hj => absurd hj (by omega), Below.refl _ _⟩
    case round =>
      obtain ⟨k, rfl, hk, hall, hb⟩ := hrel
      have HA : Hid (∀ j, j < k → nl L j = nl M j ∧ nr L j = nr M j) := hall
      clear hall
      by_cases hlt : k < L.length
      · obtain ⟨b, off, rfl, hbs, hc⟩ := hL.at_ (by omega)
        obtain ⟨b', off', rfl, hbs', hc'⟩ := hM.at_ (by omega)
        have hc1 := cell_keep (hc k hlt).1 hb
        have hc2 := cell_keep (hc k hlt).2 hb
        have hc3 := cell_keep (hc' k (by omega)).1 hb
        have hc4 := cell_keep (hc' k (by omega)).2 hb
        clear hc hc'
        cases he : depEqB (nl L k) (nr L k) (nl M k) (nr M k)
        · go_wp2_with fail
          (refine wp_region_after (by kernel_rfl) (by kernel_rfl) ?_; have q_hc1 := fun (x : After _) => cell_keep hc1 x.bel; have q_hc2 := fun (x : After _) => cell_keep hc2 x.bel; have q_hc3 := fun (x : After _) => cell_keep hc3 x.bel; have q_hc4 := fun (x : After _) => cell_keep hc4 x.bel; (repeat (go_big_quiet_step ((first | (go_at_call 49; exact Ans.after (Ans.eqb (c_eqDep _ _ _ _ _) he)))))); clear q_hc1; clear q_hc2; clear q_hc3; clear q_hc4; refine wpQuiet_nil ?_; rintro _ ⟨⟨w1, hbn⟩, rfl⟩; (try simp only [After.w]); replace hc1 := cell_keep hc1 hbn; replace hc2 := cell_keep hc2 hbn; replace hc3 := cell_keep hc3 hbn; replace hc4 := cell_keep hc4 hbn; replace hb := bel_to (w := w) (by first | exact hb | exact hb.alloc hb.size _ | exact (hb.alloc hb.size _).alloc (Nat.le_trans hb.size (by simp)) _ | exact hb.setCell (by simp [hb.size]) _) hbn; clear hbn)
          go_wp2
          go_ret
          exact ⟨ret_bool (by symm; rw [decide_eq_false_iff_not]; intro e; subst e; simp [depEqB] at he), hb⟩
        · have HE0 : nl L k = nl M k ∧ nr L k = nr M k := by simpa [depEqB] using he
          have HE : Hid (nl L k = nl M k ∧ nr L k = nr M k) := HE0
          clear HE0
          go_wp2_with fail
          (refine wp_region_after (by kernel_rfl) (by kernel_rfl) ?_; have q_hc1 := fun (x : After _) => cell_keep hc1 x.bel; have q_hc2 := fun (x : After _) => cell_keep hc2 x.bel; have q_hc3 := fun (x : After _) => cell_keep hc3 x.bel; have q_hc4 := fun (x : After _) => cell_keep hc4 x.bel; (repeat (go_big_quiet_step ((first | (go_at_call 49; exact Ans.after (Ans.eqb (c_eqDep _ _ _ _ _) he)))))); clear q_hc1; clear q_hc2; clear q_hc3; clear q_hc4; refine wpQuiet_nil ?_; rintro _ ⟨⟨w1, hbn⟩, rfl⟩; (try simp only [After.w]); replace hc1 := cell_keep hc1 hbn; replace hc2 := cell_keep hc2 hbn; replace hc3 := cell_keep hc3 hbn; replace hc4 := cell_keep hc4 hbn; replace hb := bel_to (w := w) (by first | exact hb | exact hb.alloc hb.size _ | exact (hb.alloc hb.size _).alloc (Nat.le_trans hb.size (by simp)) _ | exact hb.setCell (by simp [hb.size]) _) hbn; clear hbn)
          go_wp2
          go_roundw
          case rel => exact ⟨k + 1, by go_num, by omega, lt_step (p := fun j => nl L j = nl M j ∧ nr L j = nr M j) HA.out HE.out, hb⟩
          case measure => simp [intOf]; omega
      · have hkk : k = L.length := by omega
        have HE : Hid (L = M) := dlist_ext HL.out fun j hj => HA.out j (by omega)
        clear hkk
        go_wp2
        go_ret
        exact ⟨ret_bool (by symm; rw [decide_eq_true_iff]; exact HE.out), hb⟩
  · have hb0 : ((L.length : Int) != (M.length : Int)) = true := by simp; omega
    go_enter Try.func22, Try.ntmps22
    go_wp2
    go_ret
    exact ⟨ret_bool (by symm; rw [decide_eq_false_iff_not]; intro e; exact hlen (by rw [e])), Below.refl _ _⟩

theorem c_toDepS (oa) (ca : Nat) (D : List (Int × Int)) (w : World) (hD : DepsAt w oa D) :
    Calls Try.prog 18 #[.slice oa D.length ca] w fun e w' => ∃ v, e = .returned v ∧ OwnD w' w.heap.size v D ∧ Below w.heap.size w w' := by
  have hn : D.length ≤ 1073741824 := hD.len
  obtain ⟨i0, hi, hz0, hz1, hz2⟩ := info_parts info_dep
  go_enter Try.func18, Try.ntmps18
  go_wp2_with (first | (at_make; refine wpList_make_full _ rfl _ _ 31 rfl w.heap.size 33 i0 (.agg #[.int .i64 0, .int .i64 0]) 2 Try.underlying31 hi hz0 hz1 .i64 .i64 _ _ D.length rfl rfl rfl rfl (by rw [hz2]; omega) (by unfold maxLen; omega) (Nat.le_refl _) ?_; intro w1 hown hgrow))
  rw [madeD] at hown
  have hI : OwnD w1 w.heap.size (.slice (some ⟨w.heap.size, 0, none⟩) D.length D.length) (List.replicate D.length (0, 0)) := by unfold OwnD; rw [List.length_replicate]; exact hown
  have hb1 : Below w.heap.size w w1 := below_grown hgrow (Nat.le_refl _) (by simp)
  clear hown hgrow hi hz0 hz1 hz2 i0
  go_loopw [4] (fun i wr => ∃ (k : Nat) (M : List (Int × Int)), i = .int .i64 k ∧ k ≤ D.length ∧ M.length = D.length ∧ (∀ j, j < k → nl M j = nl D j ∧ nr M j = nr D j) ∧
      OwnD wr w.heap.size (.slice (some ⟨w.heap.size, 0, none⟩) D.length D.length) M ∧ Below w.heap.size w wr) (fun i _ => D.length - (intOf i).toNat)
  case atStart => exact ⟨0, _, rfl, Nat.zero_le _, by simp, fun j hj => absurd hj (by omega), hI, hb1⟩
  case round =>
    clear hI hb1
    obtain ⟨k, M, rfl, hk, hM, hall, hI, hb⟩ := hrel
    have HM : Hid (M.length = D.length) := hM
    have HA : Hid (∀ j, j < k → nl M j = nl D j ∧ nr M j = nr D j) := hall
    clear hall hM
    by_cases hlt : k < D.length
    · obtain ⟨b, off, rfl, hbs, hc⟩ := hD.at_ (by omega)
      have hc1 := cell_keep (hc k hlt).1 hb
      have hc2 := cell_keep (hc k hlt).2 hb
      clear hc
      go_wp2_with fail
      refine Calls.mono (c_toDep _ _ _) ?_
      rintro e w1 ⟨rfl, hbn⟩
      replace hI := hI.keep hbn
      replace hb := bel_to (w := w) hb hbn
      obtain ⟨hg1, hg2, hg3, hg4⟩ := hI.cell HM.out.symm k hlt
      have HI2 := (show Hid _ from hI.store HM.out.symm k (nl D k) (nr D k))
      clear hc1 hc2 hbn
      go_wp2
      go_roundw
      case rel =>
        refine ⟨k + 1, M.set k (nl D k, nr D k), by go_num, by omega, by rw [List.length_set]; exact HM.out, ?_, HI2.out, (hb.setCell (Nat.le_refl _) _).setCell (Nat.le_refl _) _⟩
        intro j hj
        rw [nl_set (by have := HM.out; omega), nr_set (by have := HM.out; omega)]
        by_cases h : j = k
        · subst h; simp
        · simp only [if_neg h]; exact HA.out j (by omega)
      case measure => simp [intOf]; omega
    · have hkk : k = D.length := by omega
      have HK : Hid (k = D.length) := hkk
      clear hkk
      go_wp2
      go_ret
      have : M = D := dlist_ext HM.out fun j hj => HA.out j (by have := HM.out; have := HK.out; omega)
      subst this
      exact ⟨_, rfl, hI, hb⟩

/-- A slice of dependencies that came in. -/
def InDeps (w : World) (v : Value) : Prop := ∃ a len cap, v = .slice a len cap ∧ len ≤ maxLen ∧ (len ≤ Room → ∃ D : List (Int × Int), D.length = len ∧ DepsAt w a D)

theorem c_szDepS_ok (oa) (n cap : Nat) (left : Int) (h0 : left ≤ 1048576) (h : (n : Int) ≤ left) (w : World) :
    Ans Try.prog 16 #[.slice oa n cap, .int .i64 left] w (.int .i64 (left - n)) := by
  unfold Ans
  go_enter Try.func16, Try.ntmps16
  go_wp2
  go_ret
  exact ⟨rfl, Below.refl _ _⟩
theorem c_szDepS_no (oa) (n cap : Nat) (left : Int) (h0 : 0 ≤ left ∧ left ≤ 1048576) (h : left < (n : Int)) (hn : n ≤ maxLen) (w : World) :
    Ans Try.prog 16 #[.slice oa n cap, .int .i64 left] w (.int .i64 (-1)) := by
  unfold Ans
  unfold maxLen at hn
  go_enter Try.func16, Try.ntmps16
  go_wp2
  go_ret
  exact ⟨rfl, Below.refl _ _⟩
end Go.Proofs.Ytkanbnbofoabeaa
namespace Go.Proofs.Ytkanbnbofoabeaa
open Go.ChangeShapes Go.WideShapes Go.ChangeAt Go.RowKit Go.Joins
set_option linter.unusedVariables false
set_option maxRecDepth 100000

theorem add_at (b off j : Nat) : (⟨b, off, none⟩ : Addr).add j = ⟨b, off + j, none⟩ := by unfold Addr.add; split <;> simp_all

theorem open_deps {H : Type} {enc : TypeId × Value → H} {W : World} {base : Nat} {held : Bool} {v : Value} {d : DataW H} {ps : List MemPlace} (hok : Value.okWide Try.prog W .any base 22 v)
    (h : DataW.Trod enc Try.prog W 0 (fun _ => true) held 22 v d ps) : InDeps W v := by
  obtain ⟨a0, len0, cap0, rfl⟩ := okWide_slice Try.underlying22 hok
  obtain ⟨fuel, hf⟩ := h
  rcases Go.Deep.open_slice_pairs Try.underlying22 Try.underlying24 (by kernel_rfl) rfl rfl (by kernel_rfl) (by kernel_rfl) hf with ⟨hcs, _⟩ | ⟨x, l, c, m, n, V0, V1, D0, D1, P0, P1, hcs, _, hl, hm, hmm, _, hcell⟩
  · simp [Value.cells] at hcs
    obtain ⟨rfl, rfl, rfl⟩ := hcs
    exact ⟨_, _, _, rfl, Nat.zero_le _, fun _ => ⟨[], rfl, by simp, fun h => absurd h (by simp)⟩⟩
  · simp [Value.cells] at hcs
    obtain ⟨rfl, rfl, rfl⟩ := hcs
    simp only [if_true] at hmm
    subst hmm
    refine ⟨_, _, _, rfl, Nat.le_trans hl hm, fun hr => ?_⟩
    have each : ∀ i, i < len0 → ∃ q : Int × Int, V0 i = .int .i64 q.1 ∧ V1 i = .int .i64 q.2 := by
      intro i hi
      obtain ⟨_, _, t0, t1⟩ := hcell i (by omega)
      obtain ⟨z0, e0, _⟩ := DataW.trod_int Try.underlying3 t0
      obtain ⟨z1, e1, _⟩ := DataW.trod_int Try.underlying3 t1
      simp at e0 e1
      exact ⟨(z0, z1), e0, e1⟩
    obtain ⟨q, hq⟩ := Go.Deep.choose_lt each
    refine ⟨(List.range len0).map q, by simp, by simpa using hr, fun h0 => ?_⟩
    simp only [List.length_map, List.length_range] at h0
    obtain ⟨b, off, spot⟩ := x
    have hc := (hcell 0 (by omega)).1
    have hspot : spot = none := by simpa [Addr.add] using World.cell?_spot hc
    subst hspot
    refine ⟨b, off, rfl, World.block_lt_of_cell? W ⟨b, off, none⟩ (by simpa [Addr.add] using hc), fun k hk => ?_⟩
    simp only [List.length_map, List.length_range] at hk
    obtain ⟨c0, c1, _⟩ := hcell k (by omega)
    rw [add_at] at c0 c1
    obtain ⟨e0, e1⟩ := hq k hk
    rw [e0] at c0
    rw [e1] at c1
    rw [Nat.add_assoc, c0, c1]
    have e : ((List.range len0).map q).getD k (0, 0) = q k := by simp [List.getD, hk]
    unfold nl nr
    rw [e]; exact ⟨rfl, rfl⟩

theorem open_dep {H : Type} {enc : TypeId × Value → H} {W : World} {base : Nat} {held : Bool} {v : Value} {d : DataW H} {ps : List MemPlace} (hok : Value.okWide Try.prog W .any base 24 v)
    (h : DataW.Trod enc Try.prog W 0 (fun _ => true) held 24 v d ps) : ∃ l r : Int, v = .agg #[.int .i64 l, .int .i64 r] ∧ (Lit.int .i64 l).wf = true ∧ (Lit.int .i64 r).wf = true := by
  obtain ⟨c0, c1, y0, y1, m, rfl, rfl, rfl, hy0, hy1⟩ := open_agg2 Try.underlying24 (by kernel_rfl) (by kernel_rfl) hok h
  obtain ⟨z0, e0, _, w0⟩ := DataW.trod_int Try.underlying3 hy0
  obtain ⟨z1, e1, _, w1⟩ := DataW.trod_int Try.underlying3 hy1
  simp at e0 e1
  subst e0 e1
  exact ⟨_, _, rfl, w0, w1⟩
end Go.Proofs.Ytkanbnbofoabeaa
namespace Go.Proofs.Ytkanbnbofoabeaa
open Go.ChangeShapes Go.WideShapes Go.ChangeAt Go.RowKit Go.Joins
set_option linter.unusedVariables false
set_option maxRecDepth 100000

def InTab (w : World) (v : Value) : Prop := ∃ (n : Int) (oa : Option Addr) (l c : Nat) (Ln : Nat → Nat), v = .agg #[.int .i64 n, .slice oa l c] ∧ RowsIn w oa l Ln
theorem open_table {H : Type} {enc : TypeId × Value → H} {W : World} {base : Nat} {held : Bool} {v : Value} {d : DataW H} {ps : List MemPlace} (hok : Value.okWide Try.prog W .any base 40 v)
    (h : DataW.Trod enc Try.prog W 0 (fun _ => true) held 40 v d ps) : InTab W v := by
  obtain ⟨c0, c1, y0, y1, m, rfl, rfl, rfl, hy0, hy1⟩ := open_agg2 Try.underlying40 (by kernel_rfl) (by kernel_rfl) hok h
  obtain ⟨z0, e0, _, w0⟩ := DataW.trod_int Try.underlying3 hy0
  simp at e0
  subst e0
  rcases Go.Deep.open_int_rows Try.underlying26 Try.underlying69 Try.underlying3 (by kernel_rfl) (by kernel_rfl) hy1 with ⟨hcs, _⟩ | ⟨a, len, cap, A, L, C, Z, hcs, _, hl, hm, _, hr⟩
  · simp at hcs
    subst hcs
    exact ⟨_, _, _, _, fun _ => 0, rfl, Nat.zero_le _, fun h => absurd h (by simp)⟩
  · simp at hcs
    subst hcs
    refine ⟨_, _, _, _, L, rfl, Nat.le_trans hl hm, fun h0 => ?_⟩
    obtain ⟨b, off, spot⟩ := a
    have hc := (hr 0 (by omega)).1
    have hspot : spot = none := by simpa [Addr.add] using World.cell?_spot hc
    subst hspot
    refine ⟨b, off, rfl, World.block_lt_of_cell? W ⟨b, off, none⟩ (by simpa [Addr.add] using hc), fun r hrl => ?_⟩
    obtain ⟨h1, h2, h3, h4, h5, h6, h7⟩ := hr r (by omega)
    rw [add_at] at h1
    refine ⟨Nat.le_trans h2 h3, A r, C r, h1, fun hroom => ?_⟩
    refine IsRow.ints (cap := C r) (zs := Z r) ?_ hroom
    cases hA : A r with
    | none =>
      have hz : C r = 0 := h6 hA
      refine .inl ⟨rfl, by omega, hz, List.eq_nil_of_length_eq_zero (by omega)⟩
    | some a' =>
      obtain ⟨_, hcell⟩ := h7 a' hA
      exact .inr ⟨a', rfl, h2, h3, h4, fun i hi => hcell i (by omega), h5⟩
theorem RowsIn.keep {w w' : World} {oa : Option Addr} {l : Nat} {Ln : Nat → Nat} (h : RowsIn w oa l Ln) (hk : Below w.heap.size w w') : RowsIn w' oa l Ln :=
  ⟨h.len, fun h0 => by
    obtain ⟨b, off, e, hlt, hr⟩ := h.rows h0
    exact ⟨b, off, e, Nat.lt_of_lt_of_le hlt hk.size, fun r hrl => by
      obtain ⟨m, o, c, h1, h2⟩ := hr r hrl
      exact ⟨m, o, c, cell_keep h1 hk, fun hq => by
        obtain ⟨L, e1, e2⟩ := h2 hq
        exact ⟨L, e1, e2.keep hk⟩⟩⟩⟩
end Go.Proofs.Ytkanbnbofoabeaa
namespace Go.Proofs.Ytkanbnbofoabeaa
open Go.RowKit
set_option linter.unusedVariables false
set_option maxRecDepth 100000

set_option maxHeartbeats 3200000 in
theorem w_FnExactDepsByTransversals (w : World) {vT : Value} (inT : InTab w vT) (m : Int) (wf_m : (Lit.int .i64 m).wf = true) :
    Calls Try.prog 15 #[vT, .int .i64 m] w fun e w' => e = .returned (.bool true) ∧ Below w.heap.size w w' := by
  obtain ⟨n, oT, lT, cT, Ln, rfl, hRI⟩ := inT
  have hb := (Below.refl w.heap.size w).alloc (Nat.le_refl _) (.cells #[.int .i64 n, .slice oT lT cT] 40)
  have tb0 := box_at w #[.int .i64 n, .slice oT lT cT] 40 0 _ rfl
  have tb1 := box_at w #[.int .i64 n, .slice oT lT cT] 40 1 _ rfl
  go_enter Try.func15, Try.ntmps15
  go_wp2_with fail
  refine (c_szTables n _ _ _ _ _ (hRI.keep hb)).mono ?_
  rintro e w0 ⟨⟨x, rfl, hx⟩, hbn⟩
  replace tb0 := cell_keep tb0 hbn
  replace tb1 := cell_keep tb1 hbn
  replace hb := bel_to hb hbn
  clear hbn
  rcases hx with rfl | ⟨hx0, hx1, hx2, hx3⟩
  · go_wp2
    go_ret
    exact ⟨rfl, hb⟩
  obtain ⟨R, rfl, hR, hRl⟩ := hRI.reads (by unfold Room; omega) (fun r hr => by have := sumN_one (Ln := Ln) hr; unfold Room; omega)
  have hsum : (sumL R R.length : Int) ≤ 1048576 := by rw [sumL_sumN hRl R.length (Nat.le_refl _)]; omega
  have hRoom : R.length ≤ Room := hR.len
  have HRr : Hid (∀ j, j < R.length → (row R j).length ≤ Room) := fun j hj => by rw [hRl j hj]; have := sumN_one (Ln := Ln) hj; unfold Room; omega
  have hlen : (depsTF n R m).length ≤ Room := depsT_len n R m
  clear hx3 hRl hRI hx2
  generalize hL0 : depsTF n R m = L0 at *
  have hqm : ((1 : Int) + 2 * (L0.length : Int) != 1 + 2 * (L0.length : Int)) = false := by simp
  have hlt1 : ¬ ((1 : Int) + 2 * (L0.length : Int) < 0) := by omega
  have hk0 : ¬ ((1 : Int) + (sumL R R.length : Int) < 0) := by omega
  go_wp2_with fail
  refine (c_toTable n _ _ R _ (hR.keep hb)).mono ?_
  rintro e w1 ⟨o_sT, c_sT, rfl, sT, hbn⟩
  replace tb0 := cell_keep tb0 hbn
  replace tb1 := cell_keep tb1 hbn
  replace hb := bel_to hb hbn
  clear hbn
  go_wp2_with fail
  have hbase := World.block_lt_of_cell? _ _ tb0
  refine (c_specDepsByTransversals n _ _ R m _ sT).mono ?_
  rw [hL0]
  rintro e w2 ⟨v2, rfl, wO, hbn⟩
  replace tb0 := cell_keep tb0 hbn
  replace tb1 := cell_keep tb1 hbn
  replace sT := sT.keep hbn
  replace wO := wO.based (show w.heap.size + 1 ≤ _ from hbase)
  replace hb := bel_to hb hbn
  obtain ⟨o_wO, c_wO, rfl⟩ := wO.shape
  clear hbn hbase
  clear sT
  go_wp2_with fail
  have old_wO := wO
  have hbase := World.block_lt_of_cell? _ _ tb0
  refine (c_toTableO n _ _ R _ (hR.keep hb)).mono ?_
  rintro e w3 ⟨o_x, c_x, xs, rfl, xO, hbn⟩
  have ap_w := OwnRows.before old_wO xO
  clear old_wO
  replace tb0 := cell_keep tb0 hbn
  replace tb1 := cell_keep tb1 hbn
  replace wO := wO.keep hbn
  replace xO := xO.based (show w.heap.size + 1 ≤ _ from hbase)
  replace hb := bel_to hb hbn
  clear hbn hbase
  have hcx : R.length ≤ c_x := xO.cap
  have bx0 := box_at w3 #[.int .i64 n, .slice o_x R.length c_x] 28 0 _ rfl
  have bx1 := box_at w3 #[.int .i64 n, .slice o_x R.length c_x] 28 1 _ rfl
  have hbn := (Below.refl w3.heap.size w3).alloc (Nat.le_refl _) (.cells #[.int .i64 n, .slice o_x R.length c_x] 28)
  replace tb0 := cell_keep tb0 hbn
  replace tb1 := cell_keep tb1 hbn
  replace wO := wO.keep hbn
  replace xO := xO.keep hbn
  replace hb := bel_to hb hbn
  clear hbn
  have old_wO := wO
  have old_xO := xO
  go_wp2_with fail
  have hbase := World.block_lt_of_cell? _ _ tb0
  refine (c_DepsByTransversals n _ _ R m _ (xO.read hRoom HRr.out) hcx).mono ?_
  rw [hL0]
  rintro e w4 ⟨v4, rfl, gO, hbn⟩
  have ap_g := OwnRows.behind old_xO gO
  clear old_xO
  have ap_wO_gO := apart_old old_wO gO
  clear old_wO
  replace tb0 := cell_keep tb0 hbn
  replace tb1 := cell_keep tb1 hbn
  replace bx0 := cell_keep bx0 hbn
  replace bx1 := cell_keep bx1 hbn
  replace wO := wO.keep hbn
  replace xO := xO.keep hbn
  replace gO := gO.based (show w.heap.size + 1 ≤ _ from hbase)
  replace hb := bel_to hb hbn
  obtain ⟨o_gO, c_gO, rfl⟩ := gO.shape
  clear hbn hbase
  go_wp2_with fail
  refine Calls.mono (Ans.eqb (b' := true) (c_eqDepS _ _ _ _ _ _ _ (gO.deps rfl hlen) (wO.deps rfl hlen)) (by simp)) ?_
  rintro e w5 ⟨rfl, hbn⟩
  replace tb0 := cell_keep tb0 hbn
  replace tb1 := cell_keep tb1 hbn
  replace bx0 := cell_keep bx0 hbn
  replace bx1 := cell_keep bx1 hbn
  replace wO := wO.keep hbn
  replace xO := xO.keep hbn
  replace gO := gO.keep hbn
  replace hb := bel_to hb hbn
  clear hbn
  go_wp2_with fail
  go_region_held3 (fun w' => w'.cell? ⟨w.heap.size, 0, none⟩ = some (.int .i64 n) ∧ w'.cell? ⟨w.heap.size, 1, none⟩ = some (.slice oT R.length cT) ∧ w'.cell? ⟨w3.heap.size, 0, none⟩ = some (.int .i64 n) ∧ w'.cell? ⟨w3.heap.size, 1, none⟩ = some (.slice o_x R.length c_x) ∧ Below w.heap.size w w' ∧ OwnRows w' (w.heap.size + 1) (.slice o_x R.length c_x) xs R ∧ OwnD w' (w.heap.size + 1) (.slice o_gO L0.length c_gO) L0 ∧ OwnD w' (w.heap.size + 1) (.slice o_wO L0.length c_wO) L0)
    (first | (rename_i hS _ _; exact ⟨cell_keep hS.1 hbn, cell_keep hS.2.1 hbn, cell_keep hS.2.2.1 hbn, cell_keep hS.2.2.2.1 hbn, bel_to hS.2.2.2.2.1 hbn, hS.2.2.2.2.2.1.keep hbn, hS.2.2.2.2.2.2.1.keep hbn, hS.2.2.2.2.2.2.2.keep hbn⟩) | exact ⟨cell_keep tb0 (Below.refl _ _).drew, cell_keep tb1 (Below.refl _ _).drew, cell_keep bx0 (Below.refl _ _).drew, cell_keep bx1 (Below.refl _ _).drew, hb.drew, xO.keep (Below.refl _ _).drew, gO.keep (Below.refl _ _).drew, wO.keep (Below.refl _ _).drew⟩)
    (first
      | (go_at_call 28; rename_i hS _ _; refine (c_toTable n _ _ R _ (hR.keep hS.2.2.2.2.1)).mono ?_; rintro e wz ⟨o1, c1, rfl, h1, hbn⟩)
      | (go_at_call 21; rename_i hS _ _; refine Calls.mono (c_eqTable n _ _ _ _ R _ (hS.2.2.2.2.2.1.read hRoom HRr.out) h1) ?_; rintro e wz ⟨rfl, hbn⟩)
      | fail)
  rename_i hS
  replace tb0 := hS.1
  replace tb1 := hS.2.1
  replace bx0 := hS.2.2.1
  replace bx1 := hS.2.2.2.1
  replace hb := hS.2.2.2.2.1
  replace xO := hS.2.2.2.2.2.1
  replace gO := hS.2.2.2.2.2.2.1
  replace wO := hS.2.2.2.2.2.2.2
  clear hS hbn
  go_wp2_with fail
  have low := xO.low
  refine (c_markTable n _ _ _ xs R _ _ xO hRoom (by omega)).mono ?_
  rintro e w6 ⟨rfl, _, hg⟩
  replace wO := OwnD.many wO hg ap_w
  replace gO := OwnD.many gO hg ap_g
  replace tb0 := cell_many tb0 hg low (Nat.lt_succ_self _)
  replace tb1 := cell_many tb1 hg low (Nat.lt_succ_self _)
  replace hb := below_many hb (Nat.le_refl _) hg (fun y hy g hk => Nat.le_of_succ_le (low y hy g hk))
  clear hg low ap_w ap_g bx0 bx1 xO
  go_wp2_with fail
  refine Calls.mono (Ans.eqb (b' := true) (c_eqDepS _ _ _ _ _ _ _ (gO.deps rfl hlen) (wO.deps rfl hlen)) (by simp)) ?_
  rintro e w7 ⟨rfl, hbn⟩
  replace tb0 := cell_keep tb0 hbn
  replace tb1 := cell_keep tb1 hbn
  replace wO := wO.keep hbn
  replace gO := gO.keep hbn
  replace hb := bel_to hb hbn
  clear hbn
  go_wp2_with fail
  refine (c_markDepS _ _ _ _ _ (by omega) _ hlen gO).mono ?_
  rintro e w8 ⟨rfl, hm8, hg⟩
  replace wO := wO.far hg ap_wO_gO
  replace tb0 := cell_gr tb0 gO (Nat.lt_succ_self _) hg
  replace tb1 := cell_gr tb1 gO (Nat.lt_succ_self _) hg
  replace hb := hb.grown hg hb.size (fun g hk => Nat.le_of_succ_le (World.ownsRow.lt gO g hk).1)
  replace gO := hm8
  clear hg
  go_wp2_with fail
  refine Calls.mono (c_heldDepS _ _ _ _ (by omega) _ (gO.deps (seqD_length _ _).symm (by rw [seqD_length]; exact hlen))) ?_
  rintro e w9 ⟨rfl, hbn⟩
  replace tb0 := cell_keep tb0 hbn
  replace tb1 := cell_keep tb1 hbn
  replace wO := wO.keep hbn
  replace gO := gO.keep hbn
  replace hb := bel_to hb hbn
  clear hbn
  go_wp2_with fail
  refine (c_toTableO n _ _ R _ (hR.keep hb)).mono ?_
  rintro e w10 ⟨o_u, c_u, us, rfl, uO, hbn⟩
  replace tb0 := cell_keep tb0 hbn
  replace tb1 := cell_keep tb1 hbn
  replace wO := wO.keep hbn
  replace gO := gO.keep hbn
  replace hb := bel_to hb hbn
  have hcu : R.length ≤ c_u := uO.cap
  clear hbn
  go_wp2_with fail
  have hbase := World.block_lt_of_cell? _ _ tb0
  refine (c_DepsByTransversals n _ _ R m _ (uO.read hRoom HRr.out) hcu).mono ?_
  rw [hL0]
  rintro e w11 ⟨v11, rfl, hO, hbn⟩
  replace tb0 := cell_keep tb0 hbn
  replace tb1 := cell_keep tb1 hbn
  replace wO := wO.keep hbn
  replace gO := gO.keep hbn
  replace uO := uO.keep hbn
  replace hO := hO.based (show w.heap.size + 1 ≤ _ from hbase)
  replace hb := bel_to hb hbn
  obtain ⟨o_hO, c_hO, rfl⟩ := hO.shape
  clear hbn hbase
  go_wp2_with fail
  refine Calls.mono (Ans.eqb (b' := true) (c_eqDepS _ _ _ _ _ _ _ (hO.deps rfl hlen) (wO.deps rfl hlen)) (by simp)) ?_
  rintro e w12 ⟨rfl, hbn⟩
  replace tb0 := cell_keep tb0 hbn
  replace tb1 := cell_keep tb1 hbn
  replace wO := wO.keep hbn
  replace gO := gO.keep hbn
  replace uO := uO.keep hbn
  replace hO := hO.keep hbn
  replace hb := bel_to hb hbn
  clear hbn
  go_wp2_with fail
  refine Calls.mono (c_heldDepS _ _ _ _ (by omega) _ (gO.deps (seqD_length _ _).symm (by rw [seqD_length]; exact hlen))) ?_
  rintro e w13 ⟨rfl, hbn⟩
  replace tb0 := cell_keep tb0 hbn
  replace tb1 := cell_keep tb1 hbn
  replace wO := wO.keep hbn
  replace gO := gO.keep hbn
  replace uO := uO.keep hbn
  replace hO := hO.keep hbn
  replace hb := bel_to hb hbn
  clear hbn
  go_wp2
  go_ret
  exact ⟨rfl, hb⟩
end Go.Proofs.Ytkanbnbofoabeaa
