/- Contracts and lemmas for FnArmstrong, part 2 of 7. -/
import Derived.Test.YtjbmpnbfiahdhaaQFnArmstrong1
import Derived.ProofKit
import Derived.OpenShut
import Derived.Lib.SmallJoins
import Derived.Deep.SlicePairs
import Derived.Deep.Matrix
namespace Go.Proofs.Ytjbmpnbfiahdhaa
open Go.RowKit
set_option linter.unusedVariables false
set_option maxRecDepth 100000

structure OwnRows (w : World) (B : Nat) (v : Value) (xs : List Value) (R : List (List Int)) : Prop where
  len : xs.length = R.length
  outer : OwnV w B v xs
  rows : ∀ j, j < R.length → ∃ o c, xs[j]? = some (.slice o (row R j).length c) ∧ OwnI w B (.slice o (row R j).length c) (row R j) ∧ Apart v (.slice o (row R j).length c)
  pair : ∀ i j, i < j → j < R.length → ∀ u u', xs[i]? = some u → xs[j]? = some u' → Apart u u'
theorem OwnRows.keep {w w' : World} {B : Nat} {v : Value} {xs : List Value} {R : List (List Int)} (h : OwnRows w B v xs R) (hb : Below w.heap.size w w') : OwnRows w' B v xs R :=
  ⟨h.len, h.outer.keep hb, fun j hj => by
    obtain ⟨o, c, h1, h2, h3⟩ := h.rows j hj
    exact ⟨o, c, h1, h2.keep hb, h3⟩, h.pair⟩
theorem OwnRows.based {w : World} {B B' : Nat} {v : Value} {xs : List Value} {R : List (List Int)} (h : OwnRows w B v xs R) (hb : B' ≤ B) : OwnRows w B' v xs R :=
  ⟨h.len, owns_base h.outer hb, fun j hj => by
    obtain ⟨o, c, h1, h2, h3⟩ := h.rows j hj
    exact ⟨o, c, h1, h2.based hb, h3⟩, h.pair⟩
theorem OwnRows.shape {w : World} {B : Nat} {v : Value} {xs : List Value} {R : List (List Int)} (h : OwnRows w B v xs R) : ∃ oa c, v = .slice oa R.length c := by
  obtain ⟨oa, c, e, _⟩ := owns_cells h.outer
  exact ⟨oa, c, by rw [e, h.len]⟩
theorem OwnRows.at_ {w : World} {B : Nat} {oa : Option Addr} {n c : Nat} {xs : List Value} {R : List (List Int)} (h : OwnRows w B (.slice oa n c) xs R) (h0 : 0 < R.length) :
    ∃ g, oa = some ⟨g, 0, none⟩ ∧ B ≤ g ∧ g < w.heap.size ∧ ∀ j, j < R.length → w.cell? ⟨g, j, none⟩ = xs[j]? := by
  obtain ⟨oa', c', e, hg⟩ := owns_cells h.outer
  simp only [Value.slice.injEq] at e
  obtain ⟨rfl, _, rfl⟩ := e
  obtain ⟨g, h1, h2, h3, _, h4, _⟩ := hg (by rw [h.len]; exact h0)
  exact ⟨g, h1, h2, h3, fun j hj => h4 j (by rw [h.len]; omega)⟩
theorem OwnRows.read {w : World} {B : Nat} {oa : Option Addr} {n c : Nat} {xs : List Value} {R : List (List Int)} (h : OwnRows w B (.slice oa n c) xs R) (hR : R.length ≤ Room) (hr : ∀ j, j < R.length → (row R j).length ≤ Room) : RowsAt w oa R :=
  ⟨hR, fun h0 => by
    obtain ⟨g, e, _, hlt, hc⟩ := h.at_ h0
    refine ⟨g, 0, e, hlt, fun j hj => ?_⟩
    obtain ⟨o, c', h1, h2, _⟩ := h.rows j hj
    exact ⟨o, c', by rw [Nat.zero_add, hc j hj]; exact h1, h2.ints rfl (hr j hj)⟩⟩

/-- Nothing has turned but in the blocks of these slices. -/
structure GrownMany (w w' : World) (vs : List Value) : Prop where
  os : w'.os = w.os
  tape : w'.tape = w.tape
  output : w'.output = w.output
  size : w.heap.size ≤ w'.heap.size
  block : ∀ k, k < w.heap.size → (∀ y ∈ vs, y.ownBlock ≠ some k) → w'.heap[k]? = w.heap[k]?
theorem GrownMany.refl (w : World) (vs : List Value) : GrownMany w w vs := ⟨rfl, rfl, rfl, Nat.le_refl _, fun _ _ _ => rfl⟩
theorem GrownMany.trans {a b c : World} {vs : List Value} (h : GrownMany a b vs) (k : GrownMany b c vs) : GrownMany a c vs :=
  ⟨k.os.trans h.os, k.tape.trans h.tape, k.output.trans h.output, Nat.le_trans h.size k.size, fun j hj hy => (k.block j (Nat.lt_of_lt_of_le hj h.size) hy).trans (h.block j hj hy)⟩
theorem GrownMany.one {a b : World} {vs : List Value} {u : Value} (h : a.grownBy b u.ownBlock) (hu : u ∈ vs) : GrownMany a b vs :=
  ⟨h.os, h.tape, h.output, h.size, fun j hj hy => h.block j hj fun e => hy u hu e.symm⟩
theorem GrownMany.of {a b : World} {vs : List Value} (h : Below a.heap.size a b) : GrownMany a b vs := ⟨h.os, h.tape, h.output, h.size, fun j hj _ => h.block j hj⟩
theorem owns_many {w w' : World} {base : Nat} {e : TypeId} {size : Nat} {v : Value} {n : Nat} {xs vs : List Value} (h : w.ownsRow base e size v n xs) (hg : GrownMany w w' vs) (ha : ∀ y ∈ vs, Apart v y) : w'.ownsRow base e size v n xs := by
  refine ⟨h.1, ?_⟩
  rcases h.2 with hn | ⟨g, cap, cur, rfl, hb, hgg, rest⟩
  · exact .inl hn
  · refine .inr ⟨g, cap, cur, rfl, hb, ?_, rest⟩
    rw [hg.block g (Array.getElem?_eq_some_iff.1 hgg).1 (fun y hy e => by
      rcases ha y hy with h' | h'
      · simp [Value.ownBlock] at h'
      · exact h' (by rw [e]; rfl))]
    exact hgg
theorem OwnI.many {w w' : World} {base : Nat} {v : Value} {L : List Int} {vs : List Value} (h : OwnI w base v L) (hg : GrownMany w w' vs) (ha : ∀ y ∈ vs, Apart v y) : OwnI w' base v L := owns_many h hg ha
theorem OwnD.many {w w' : World} {base : Nat} {v : Value} {L : List (Int × Int)} {vs : List Value} (h : OwnD w base v L) (hg : GrownMany w w' vs) (ha : ∀ y ∈ vs, Apart v y) : OwnD w' base v L := owns_many h hg ha
theorem below_many {B : Nat} {w a b : World} {vs : List Value} (h : Below B w a) (hB0 : B ≤ w.heap.size) (hg : GrownMany a b vs) (hB : ∀ y ∈ vs, ∀ g, y.ownBlock = some g → B ≤ g) : Below B w b :=
  h.trans ⟨hg.os, hg.tape, hg.output, hg.size, fun k hk => hg.block k (by have := h.size; omega) fun y hy e => by have := hB y hy k e; omega⟩
theorem OwnRows.low {w : World} {B : Nat} {v : Value} {xs : List Value} {R : List (List Int)} (h : OwnRows w B v xs R) : ∀ y ∈ xs, ∀ g, y.ownBlock = some g → B ≤ g := by
  intro y hy g hg
  obtain ⟨j, hj⟩ := List.mem_iff_getElem?.1 hy
  have hjl : j < R.length := by rw [← h.len]; exact (List.getElem?_eq_some_iff.1 hj).1
  obtain ⟨o, c, h1, h2, _⟩ := h.rows j hjl
  rw [h1] at hj
  injection hj with hj
  subst hj
  exact (World.ownsRow.lt h2 g hg).1
/-- What the call made before, and what it makes behind, lies apart from all of it. -/
theorem OwnRows.before {w w' : World} {base size n : Nat} {e : TypeId} {u v : Value} {ys xs : List Value} {R : List (List Int)} (h : w.ownsRow base e size u n ys) (h' : OwnRows w' w.heap.size v xs R) : ∀ y ∈ xs, Apart u y := by
  intro y hy
  obtain ⟨j, hj⟩ := List.mem_iff_getElem?.1 hy
  have hjl : j < R.length := by rw [← h'.len]; exact (List.getElem?_eq_some_iff.1 hj).1
  obtain ⟨o, c, h1, h2, _⟩ := h'.rows j hjl
  rw [h1] at hj
  injection hj with hj
  subst hj
  exact apart_old h h2
theorem OwnRows.behind {w w' : World} {size n : Nat} {e : TypeId} {u v : Value} {ys xs : List Value} {R : List (List Int)} {B : Nat} (h : OwnRows w B v xs R) (h' : w'.ownsRow w.heap.size e size u n ys) : ∀ y ∈ xs, Apart u y := by
  intro y hy
  obtain ⟨j, hj⟩ := List.mem_iff_getElem?.1 hy
  have hjl : j < R.length := by rw [← h.len]; exact (List.getElem?_eq_some_iff.1 hj).1
  obtain ⟨o, c, h1, h2, _⟩ := h.rows j hjl
  rw [h1] at hj
  injection hj with hj
  subst hj
  exact (apart_old h2 h').symm

def sumL (R : List (List Int)) (i : Nat) : Nat := ((R.take i).map List.length).sum
theorem sumL_succ {R : List (List Int)} {i : Nat} (h : i < R.length) : sumL R (i + 1) = sumL R i + (row R i).length := by
  unfold sumL
  rw [List.take_add_one, row_eq h]
  simp
theorem sumL_mono {R : List (List Int)} : ∀ {i j : Nat}, i ≤ j → j ≤ R.length → sumL R i ≤ sumL R j := by
  intro i j hij
  induction j with
  | zero => intro _; have : i = 0 := by omega
            subst this; exact Nat.le_refl _
  | succ j ih =>
    intro hj
    rcases Nat.lt_or_ge i (j + 1) with h | h
    · rw [sumL_succ (by omega)]; have := ih (by omega) (by omega); omega
    · have : i = j + 1 := by omega
      subst this; exact Nat.le_refl _
def seqR (k : Int) (R : List (List Int)) : List (List Int) := (List.range R.length).map fun j => seqI (k + sumL R j) (row R j).length
theorem seqR_length (k : Int) (R : List (List Int)) : (seqR k R).length = R.length := by simp [seqR]
theorem seqR_row {k : Int} {R : List (List Int)} {j : Nat} (h : j < R.length) : row (seqR k R) j = seqI (k + sumL R j) (row R j).length := by simp [row, seqR, List.getD, h]
theorem rows_ext {R S : List (List Int)} (hl : R.length = S.length) (h : ∀ j, j < R.length → row R j = row S j) : R = S := by
  apply List.ext_getElem hl
  intro j h1 h2
  have := h j h1
  simp [row, List.getD, h1, h2] at this
  exact this

set_option maxHeartbeats 800000 in
theorem c_markIntSS (oa) (c B : Nat) (xs : List Value) (R : List (List Int)) (k0 : Int) (w : World) (h : OwnRows w B (.slice oa R.length c) xs R) (hR : R.length ≤ Room) (hk0 : 0 ≤ k0 ∧ k0 + sumL R R.length ≤ 1073741824) :
    Calls Try.prog 86 #[.slice oa R.length c, .int .i64 k0] w fun e w' => e = .returned (.int .i64 (k0 + sumL R R.length)) ∧ OwnRows w' B (.slice oa R.length c) xs (seqR k0 R) ∧ GrownMany w w' xs := by
  unfold Room at hR
  obtain ⟨h01, h02⟩ := hk0
  have HX : Hid (k0 + sumL R R.length ≤ 1073741824) := h02
  clear h02
  go_enter Try.func86, Try.ntmps86
  go_wp2
  go_loopw [1, 5] (fun k i wr => ∃ (j : Nat) (M : List (List Int)), k = .int .i64 (k0 + sumL R j) ∧ i = .int .i64 j ∧ j ≤ R.length ∧ M.length = R.length ∧ (∀ t, t < R.length → (row M t).length = (row R t).length) ∧ (∀ t, t < j → row M t = seqI (k0 + sumL R t) (row R t).length) ∧
    OwnRows wr B (.slice oa R.length c) xs M ∧ GrownMany w wr xs) (fun _ i _ => R.length - (intOf i).toNat)
  case atStart => exact ⟨0, R, by simp [sumL], rfl, Nat.zero_le _, rfl, fun _ _ => rfl, fun t ht => absurd ht (by omega), h, GrownMany.refl _ _⟩
  case round =>
    clear h
    obtain ⟨j, M, rfl, rfl, hj, hM, hlen, hall, hO, hg⟩ := hrel
    have HM : Hid (M.length = R.length) := hM
    have HL : Hid (∀ t, t < R.length → (row M t).length = (row R t).length) := hlen
    have HA : Hid (∀ t, t < j → row M t = seqI (k0 + sumL R t) (row R t).length) := hall
    clear hM hlen hall
    by_cases hlt : j < R.length
    · obtain ⟨g, rfl, hBg, hgl, hcell⟩ := hO.at_ (by have := HM.out; omega)
      obtain ⟨o, c', h1, h2, h3⟩ := hO.rows j (by have := HM.out; omega)
      have hc1 := (hcell j (by have := HM.out; omega)).trans h1
      have hmono := sumL_mono (R := R) (i := j + 1) (j := R.length) (by omega) (Nat.le_refl _)
      have hsucc := sumL_succ hlt
      have hrl : (row M j).length ≤ 1073741824 := by have := HL.out j hlt; have := HX.out; omega
      have hk : 0 ≤ k0 + (sumL R j : Int) ∧ k0 + (sumL R j : Int) ≤ 1073741824 := by have := HX.out; omega
      have HS : Hid (sumL R (j + 1) = sumL R j + (row R j).length) := hsucc
      clear hcell hmono hsucc
      go_wp2_with fail
      refine (c_markIntS _ _ B _ _ hk _ hrl h2).mono ?_
      rintro e w1 ⟨rfl, hI, hg1⟩
      have HO2 : Hid (OwnRows w1 B (.slice (some ⟨g, 0, none⟩) R.length c) xs (M.set j (seqI (k0 + sumL R j) (row M j).length))) := by
        refine ⟨by rw [List.length_set]; exact hO.len, World.ownsRow.kept hO.outer hg1 h3, fun t ht => ?_, fun i t hi ht => hO.pair i t hi (by rw [List.length_set] at ht; exact ht)⟩
        rw [List.length_set] at ht
        by_cases e : t = j
        · subst e
          have er : row (M.set t (seqI (k0 + sumL R t) (row M t).length)) t = seqI (k0 + sumL R t) (row M t).length := by simp [row, List.getD, List.getElem?_set_self ht]
          rw [er, seqI_length]
          exact ⟨o, c', h1, hI, h3⟩
        · have er : row (M.set j (seqI (k0 + sumL R j) (row M j).length)) t = row M t := by simp [row, List.getD, List.getElem?_set_ne (Ne.symm e)]
          rw [er]
          obtain ⟨o2, c2, q1, q2, q3⟩ := hO.rows t ht
          refine ⟨o2, c2, q1, q2.far hg1 ?_, q3⟩
          rcases Nat.lt_or_ge t j with h' | h'
          · exact hO.pair t j h' (by have := HM.out; omega) _ _ q1 h1
          · exact (hO.pair j t (by omega) ht _ _ h1 q1).symm
      have HG : Hid (GrownMany w w1 xs) := hg.trans (GrownMany.one hg1 (List.mem_iff_getElem?.2 ⟨j, h1⟩))
      clear hO hg hI hg1 h1 h2 h3
      go_wp2
      go_roundw
      case rel =>
        refine ⟨j + 1, _, ?_, by go_num, by omega, by rw [List.length_set]; exact HM.out, fun t ht => ?_, ?_, HO2.out, HG.out⟩
        · rw [HS.out]; have := HL.out j hlt; simp; omega
        · by_cases e : t = j
          · subst e
            have er : row (M.set t (seqI (k0 + sumL R t) (row M t).length)) t = seqI (k0 + sumL R t) (row M t).length := by simp [row, List.getD, List.getElem?_set_self (show t < M.length by have := HM.out; omega)]
            rw [er, seqI_length]; exact HL.out t ht
          · have er : row (M.set j (seqI (k0 + sumL R j) (row M j).length)) t = row M t := by simp [row, List.getD, List.getElem?_set_ne (Ne.symm e)]
            rw [er]; exact HL.out t ht
        · refine lt_step (fun t ht => ?_) ?_
          · have er : row (M.set j (seqI (k0 + sumL R j) (row M j).length)) t = row M t := by simp [row, List.getD, List.getElem?_set_ne (show j ≠ t by omega)]
            rw [er]; exact HA.out t ht
          · have er : row (M.set j (seqI (k0 + sumL R j) (row M j).length)) j = seqI (k0 + sumL R j) (row M j).length := by simp [row, List.getD, List.getElem?_set_self (show j < M.length by have := HM.out; omega)]
            rw [er, HL.out j hlt]
      case measure => simp [intOf]; omega
    · have hjj : j = R.length := by omega
      have HJ : Hid (j = R.length) := hjj
      have HV : Hid (M = seqR k0 R) := rows_ext (by rw [seqR_length]; exact HM.out) fun t ht => by
        have h1 := HM.out
        rw [seqR_row (by omega)]
        exact HA.out t (by omega)
      clear hjj
      go_wp2
      go_ret
      exact ⟨ret_int (by rw [HJ.out]), by rw [← HV.out]; exact hO, hg⟩
theorem c_heldIntSS (oa) (c : Nat) (R : List (List Int)) (k0 : Int) (w : World) (hR : RowsAt w oa (seqR k0 R)) (hk0 : 0 ≤ k0 ∧ k0 + sumL R R.length ≤ 1073741824) :
    Ans Try.prog 87 #[.slice oa R.length c, .int .i64 k0] w (.int .i64 (k0 + sumL R R.length)) := by
  unfold Ans
  have hn : R.length ≤ 1073741824 := by have := hR.len; rw [seqR_length] at this; exact this
  obtain ⟨h01, h02⟩ := hk0
  have HX : Hid (k0 + sumL R R.length ≤ 1073741824) := h02
  clear h02
  go_enter Try.func87, Try.ntmps87
  go_wp2
  go_loopw [1, 5] (fun k i wr => ∃ j : Nat, k = .int .i64 (k0 + sumL R j) ∧ i = .int .i64 j ∧ j ≤ R.length ∧ Below w.heap.size w wr) (fun _ i _ => R.length - (intOf i).toNat)
  case atStart => exact ⟨0, by simp [sumL], rfl, Nat.zero_le _, Below.refl _ _⟩
  case round =>
    obtain ⟨j, rfl, rfl, hj, hb⟩ := hrel
    by_cases hlt : j < R.length
    · obtain ⟨b, off, rfl, hbs, hca⟩ := hR.at_ (by rw [seqR_length]; omega)
      obtain ⟨o, c', h1, h2⟩ := hca j (by rw [seqR_length]; omega)
      rw [seqR_row hlt, seqI_length] at h1
      rw [seqR_row hlt] at h2
      have hc1 := cell_keep h1 hb
      have hmono := sumL_mono (R := R) (i := j + 1) (j := R.length) (by omega) (Nat.le_refl _)
      have HS : Hid (sumL R (j + 1) = sumL R j + (row R j).length) := sumL_succ hlt
      have hk : 0 ≤ k0 + (sumL R j : Int) ∧ k0 + (sumL R j : Int) ≤ 1073741824 := by have := HX.out; have := HS.out; omega
      clear hca h1 hmono
      go_wp2_with fail
      refine Calls.mono (c_heldIntS _ _ _ _ hk _ (h2.keep hb)) ?_
      rintro e w1 ⟨rfl, hbn⟩
      replace hb := bel_to hb hbn
      clear hbn hc1 h2
      go_wp2
      go_roundw
      case rel => exact ⟨j + 1, by rw [HS.out]; simp; omega, by go_num, by omega, hb⟩
      case measure => simp [intOf]; omega
    · have hjj : j = R.length := by omega
      have HJ : Hid (j = R.length) := hjj
      clear hjj
      go_wp2
      go_ret
      exact ⟨ret_int (by rw [HJ.out]), hb⟩
end Go.Proofs.Ytjbmpnbfiahdhaa
namespace Go.Proofs.Ytjbmpnbfiahdhaa
open Go.RowKit
set_option linter.unusedVariables false
set_option maxRecDepth 100000

set_option maxHeartbeats 800000 in
theorem c_toIntSSo (oa) (ca : Nat) (R : List (List Int)) (w : World) (hR : RowsAt w oa R) :
    Calls Try.prog 91 #[.slice oa R.length ca] w fun e w' => ∃ o c xs, e = .returned (.slice o R.length c) ∧ OwnRows w' w.heap.size (.slice o R.length c) xs R ∧ Below w.heap.size w w' := by
  have hn : R.length ≤ 1073741824 := hR.len
  obtain ⟨i0, hi, hz0, hz1, hz2⟩ := info_parts info_ints
  go_enter Try.func91, Try.ntmps91
  go_wp2_with (first | (at_make; refine wpList_make_full _ rfl _ _ 24 rfl w.heap.size 68 i0 (.slice none 0 0) 1 Try.underlying24 hi hz0 hz1 .i64 .i64 _ _ R.length rfl rfl rfl rfl (by rw [hz2]; omega) (by unfold maxLen; omega) (Nat.le_refl _) ?_; intro w1 hown hgrow))
  have hI := ownV_made hown
  have hb1 : Below w.heap.size w w1 := below_grown hgrow (Nat.le_refl _) (by simp)
  clear hown hgrow hi hz0 hz1 hz2 i0
  go_loopw [4] (fun i wr => ∃ (k : Nat) (xs : List Value), i = .int .i64 k ∧ k ≤ R.length ∧ xs.length = R.length ∧ (∀ j, j < k → ∃ o c, xs[j]? = some (.slice o (row R j).length c) ∧ OwnI wr (w.heap.size + 1) (.slice o (row R j).length c) (row R j)) ∧ (∀ i j, i < j → j < k → ∀ u u', xs[i]? = some u → xs[j]? = some u' → Apart u u') ∧
      OwnV wr w.heap.size (.slice (some ⟨w.heap.size, 0, none⟩) R.length R.length) xs ∧ Below w.heap.size w wr) (fun i _ => R.length - (intOf i).toNat)
  case atStart => exact ⟨0, _, rfl, Nat.zero_le _, by simp, fun j hj => absurd hj (by omega), fun i j _ hj => absurd hj (by omega), hI, hb1⟩
  case round =>
    clear hI hb1
    obtain ⟨k, xs, rfl, hk, hM, hall, hpair, hI, hb⟩ := hrel
    have HM : Hid (xs.length = R.length) := hM
    have HA : Hid (∀ j, j < k → ∃ o c, xs[j]? = some (.slice o (row R j).length c) ∧ OwnI wr (w.heap.size + 1) (.slice o (row R j).length c) (row R j)) := hall
    have HP : Hid (∀ i j, i < j → j < k → ∀ u u', xs[i]? = some u → xs[j]? = some u' → Apart u u') := hpair
    clear hall hM hpair
    by_cases hlt : k < R.length
    · obtain ⟨b, off, rfl, hbs, hc⟩ := hR.at_ (by omega)
      obtain ⟨o, c, hc0, hrow⟩ := hc k hlt
      have hc1 := cell_keep hc0 hb
      have hgl := (World.ownsRow.lt hI w.heap.size rfl).2
      clear hc hc0
      go_wp2_with fail
      refine (c_toIntS _ _ _ _ (hrow.keep hb)).mono ?_
      rintro en w1 ⟨v1, rfl, h1, hbn⟩
      obtain ⟨o1, c1, rfl⟩ := h1.shape
      have hwr : OwnI wr w.heap.size (.slice o1 (row R k).length c1) (row R k) → True := fun _ => trivial
      have HP2 : Hid (∀ i, i < k → ∀ u, xs[i]? = some u → Apart u (.slice o1 (row R k).length c1)) := fun i hi u hu => by
        obtain ⟨o', c', q1, q2⟩ := HA.out i hi
        rw [q1] at hu
        injection hu with hu
        subst hu
        exact apart_old q2 h1
      replace hI := hI.keep hbn
      replace hb := bel_to hb hbn
      obtain ⟨hg1, hg2⟩ := hI.cell HM.out.symm k hlt
      rw [List.getElem?_eq_getElem (by have := HM.out; omega)] at hg1
      have hapart : ∀ {v : Value} {L : List Int}, OwnI w1 (w.heap.size + 1) v L → OwnI (w1.setCell ⟨w.heap.size, k, none⟩ (.slice o1 (row R k).length c1)) (w.heap.size + 1) v L := fun {v L} hv =>
        World.ownsRow.kept hv (grown_set w1 w.heap.size k _) (by
          cases e : v.ownBlock with
          | none => exact .inl rfl
          | some b => exact .inr (fun e' => by injection e' with e'; have := (World.ownsRow.lt hv b e).1; omega))
      have HI2 := (show Hid _ from hI.store HM.out.symm k (.slice o1 (row R k).length c1) rfl)
      have HB2 := (show Hid _ from Below.setCell (p := (⟨w.heap.size, k, none⟩ : Addr)) hb (Nat.le_refl _) (.slice o1 (row R k).length c1))
      have HR2 : Hid (OwnI (w1.setCell ⟨w.heap.size, k, none⟩ (.slice o1 (row R k).length c1)) (w.heap.size + 1) (.slice o1 (row R k).length c1) (row R k)) := hapart (h1.based (by omega))
      have HA2 : Hid (∀ j, j < k → ∃ o c, xs[j]? = some (.slice o (row R j).length c) ∧ OwnI (w1.setCell ⟨w.heap.size, k, none⟩ (.slice o1 (row R k).length c1)) (w.heap.size + 1) (.slice o (row R j).length c) (row R j)) := fun j hj => by
        obtain ⟨o', c', h1', h2'⟩ := HA.out j hj
        exact ⟨o', c', h1', hapart (h2'.keep hbn)⟩
      clear h1 hbn HA hI hb hapart hwr
      generalize hxk : xs[k]'(by have := HM.out; omega) = xk at hg1
      go_wp2
      go_roundw
      case rel =>
        refine ⟨k + 1, xs.set k (.slice o1 (row R k).length c1), by go_num, by omega, by rw [List.length_set]; exact HM.out, ?_, ?_, HI2.out, HB2.out⟩
        · refine lt_step (fun j hj => ?_) ⟨o1, c1, ?_, HR2.out⟩
          · obtain ⟨o', c', h1', h2'⟩ := HA2.out j hj
            exact ⟨o', c', by rw [List.getElem?_set_ne (by omega)]; exact h1', h2'⟩
          · rw [List.getElem?_set_self (by have := HM.out; omega)]
        · intro i j hij hj u u' hu hu'
          rw [List.getElem?_set_ne (by omega)] at hu
          by_cases e : j = k
          · subst e
            rw [List.getElem?_set_self (by have := HM.out; omega)] at hu'
            injection hu' with hu'
            subst hu'
            exact HP2.out i hij u hu
          · rw [List.getElem?_set_ne (by omega)] at hu'
            exact HP.out i j hij (by omega) u u' hu hu'
      case measure => simp [intOf]; omega
    · have hkk : k = R.length := by omega
      have HK : Hid (k = R.length) := hkk
      clear hkk
      go_wp2
      go_ret
      refine ⟨_, _, xs, rfl, ⟨HM.out, hI, fun j hj => ?_, fun i j hij hj => HP.out i j hij (by have := HK.out; omega)⟩, hb⟩
      obtain ⟨o', c', h1', h2'⟩ := HA.out j (by have := HK.out; omega)
      refine ⟨o', c', h1', h2'.based (by omega), ?_⟩
      cases e : (Value.slice o' (row R j).length c').ownBlock with
      | none => exact Apart.symm (.inl e)
      | some b =>
        have h3 := (World.ownsRow.lt h2' b e).1
        exact .inr (fun e' => by
          rw [e] at e'
          simp [Value.ownBlock] at e'
          omega)

theorem OwnRows.cap {w : World} {B : Nat} {oa : Option Addr} {c : Nat} {xs : List Value} {R : List (List Int)} (h : OwnRows w B (.slice oa R.length c) xs R) : R.length ≤ c := by
  obtain ⟨oa', c', e, hg⟩ := owns_cells h.outer
  simp only [Value.slice.injEq] at e
  obtain ⟨rfl, _, rfl⟩ := e
  rcases Nat.eq_zero_or_pos R.length with h0 | h0
  · omega
  · obtain ⟨_, _, _, _, h4, _⟩ := hg (by rw [h.len]; exact h0)
    rw [h.len] at h4; exact h4
theorem cell_many {w w' : World} {B j base : Nat} {u : Value} {vs : List Value} (h : w.cell? ⟨B, j, none⟩ = some u) (hg : GrownMany w w' vs) (low : ∀ y ∈ vs, ∀ g, y.ownBlock = some g → base ≤ g) (hB : B < base) : w'.cell? ⟨B, j, none⟩ = some u :=
  (World.cell?_of_block (hg.block B (World.block_lt_of_cell? w ⟨B, j, none⟩ h) (fun y hy e => by have := low y hy B e; omega))).trans h
theorem OwnRows.far_set {w : World} {B g : Nat} {v : Value} {xs : List Value} {R : List (List Int)} (h : OwnRows w B v xs R) (j : Nat) (u : Value) (hg : g < B) : OwnRows (w.setCell ⟨g, j, none⟩ u) B v xs R := by
  have hk : ∀ {e : TypeId} {size n : Nat} {y : Value} {zs : List Value}, w.ownsRow B e size y n zs → (w.setCell ⟨g, j, none⟩ u).ownsRow B e size y n zs := fun {e size n y zs} hy =>
    World.ownsRow.kept hy (grown_set w g j _) (by
      cases e : y.ownBlock with
      | none => exact .inl rfl
      | some b => exact .inr (fun e' => by injection e' with e'; have := (World.ownsRow.lt hy b e).1; omega))
  exact ⟨h.len, hk h.outer, fun t ht => by
    obtain ⟨o, c, h1, h2, h3⟩ := h.rows t ht
    exact ⟨o, c, h1, hk h2, h3⟩, h.pair⟩
theorem c_toTableO (n : Int) (oa) (ca : Nat) (R : List (List Int)) (w : World) (hR : RowsAt w oa R) :
    Calls Try.prog 21 #[.agg #[.int .i64 n, .slice oa R.length ca]] w fun e w' => ∃ o c xs, e = .returned (.agg #[.int .i64 n, .slice o R.length c]) ∧ OwnRows w' w.heap.size (.slice o R.length c) xs R ∧ Below w.heap.size w w' := by
  have hb0 := ((((Below.refl w.heap.size w).alloc (Nat.le_refl _) (.cells #[.int .i64 n, .slice oa R.length ca] 36)).alloc (by simp) (.cells #[.int .i64 0, .slice none 0 0] 26)).alloc (by simp; omega) (.cells #[.int .i64 n, .slice none 0 0] 26))
  go_enter Try.func21, Try.ntmps21
  go_wp2_with fail
  refine (c_toIntSSo _ _ _ _ (hR.keep hb0)).mono ?_
  rintro e w1 ⟨o, c, xs, rfl, hN, hbn⟩
  have k1 : Blk w1 (w.heap.size + 1) #[.int .i64 0, .slice none 0 0] 26 := by
    have := (Blk.new (w.alloc (.cells #[.int .i64 n, .slice oa R.length ca] 36)) #[.int .i64 0, .slice none 0 0] 26).alloc (.cells #[.int .i64 n, .slice none 0 0] 26)
    simp only [World.size_alloc] at this
    exact this.keep hbn
  have k2 : Blk w1 (w.heap.size + 1 + 1) #[.int .i64 n, .slice none 0 0] 26 := by
    have := Blk.new ((w.alloc (.cells #[.int .i64 n, .slice oa R.length ca] 36)).alloc (.cells #[.int .i64 0, .slice none 0 0] 26)) #[.int .i64 n, .slice none 0 0] 26
    simp only [World.size_alloc] at this
    exact this.keep hbn
  have a10 := k1.cell 0 _ rfl
  have a11 := k1.cell 1 _ rfl
  have f10 := k1.free 0
  have f11 := k1.free 1
  have a20 := k2.cell 0 _ rfl
  have a21 := k2.cell 1 _ rfl
  have f20 := k2.free 0
  have f21 := k2.free 1
  replace hb0 := bel_to hb0 hbn
  clear hbn k1 k2
  go_wp2
  exact bodyPost_ret (v := .agg #[.int .i64 n, .slice o R.length c]) (by simp [results, Try.results21, go_sem, a10, a11]) rfl
    ⟨o, c, xs, rfl, (((hN.far_set 1 _ (by simp)).far_set 0 _ (by simp)).far_set 1 _ (by simp)).based (by simp; omega), Below.setCell (Below.setCell (Below.setCell hb0 (by simp; omega) _) (by simp) _) (by simp) _⟩
theorem c_markTable (n : Int) (oa) (c B : Nat) (xs : List Value) (R : List (List Int)) (k0 : Int) (w : World) (h : OwnRows w B (.slice oa R.length c) xs R) (hR : R.length ≤ Room) (hk0 : 0 ≤ k0 ∧ k0 + sumL R R.length ≤ 1073741824) :
    Calls Try.prog 17 #[.agg #[.int .i64 n, .slice oa R.length c], .int .i64 k0] w fun e w' => e = .returned (.int .i64 (k0 + sumL R R.length)) ∧ OwnRows w' B (.slice oa R.length c) xs (seqR k0 R) ∧ GrownMany w w' xs := by
  have hb := (Below.refl w.heap.size w).alloc (Nat.le_refl _) (.cells #[.int .i64 n, .slice oa R.length c] 26)
  go_enter Try.func17, Try.ntmps17
  go_wp2_with fail
  refine (c_markIntSS _ _ B xs _ _ _ (h.keep hb) hR hk0).mono ?_
  rintro e w1 ⟨rfl, hO, hg⟩
  have HG : Hid (GrownMany w w1 xs) := (GrownMany.of hb).trans hg
  clear hg hb h
  go_wp2
  go_ret
  exact ⟨rfl, hO, HG.out⟩
theorem c_heldTable (n : Int) (oa) (c : Nat) (R : List (List Int)) (k0 : Int) (w : World) (hR : RowsAt w oa (seqR k0 R)) (hk0 : 0 ≤ k0 ∧ k0 + sumL R R.length ≤ 1073741824) :
    Ans Try.prog 18 #[.agg #[.int .i64 n, .slice oa R.length c], .int .i64 k0] w (.int .i64 (k0 + sumL R R.length)) := by
  unfold Ans
  have hb := (Below.refl w.heap.size w).alloc (Nat.le_refl _) (.cells #[.int .i64 n, .slice oa R.length c] 26)
  have hlt : ¬ (k0 + (sumL R R.length : Int) < 0) := by have := hk0.1; omega
  have hlt2 : decide (k0 + (sumL R R.length : Int) < 0) = false := decide_eq_false hlt
  go_enter Try.func18, Try.ntmps18
  go_wp2_with (first | (go_at_call 87; refine Calls.mono (c_heldIntSS _ _ _ _ _ (hR.keep hb) hk0) ?_; rintro e w1 ⟨rfl, hbn⟩; replace hb := bel_to (w := w) (by first | exact hb | exact hb.alloc hb.size _ | exact (hb.alloc hb.size _).alloc (Nat.le_trans hb.size (by simp)) _ | exact hb.setCell (by simp [hb.size]) _) hbn; clear hbn))
  go_ret
  exact ⟨rfl, hb⟩
end Go.Proofs.Ytjbmpnbfiahdhaa
namespace Go.Proofs.Ytjbmpnbfiahdhaa
open Go.RowKit
set_option linter.unusedVariables false
set_option maxRecDepth 100000

def sumN (Ln : Nat → Nat) (k : Nat) : Nat := ((List.range k).map Ln).sum
theorem sumN_succ (Ln : Nat → Nat) (k : Nat) : sumN Ln (k + 1) = sumN Ln k + Ln k := by unfold sumN; rw [List.range_succ]; simp
theorem sumN_one {Ln : Nat → Nat} : ∀ {n r : Nat}, r < n → Ln r ≤ sumN Ln n
  | 0, r, h => absurd h (by omega)
  | n + 1, r, h => by
    rw [sumN_succ]
    rcases Nat.lt_or_ge r n with h' | h'
    · have := sumN_one (Ln := Ln) h'; omega
    · have : r = n := by omega
      subst this; omega
theorem sumL_sumN {R : List (List Int)} {Ln : Nat → Nat} (h : ∀ r, r < R.length → (row R r).length = Ln r) : ∀ k, k ≤ R.length → sumL R k = sumN Ln k
  | 0, _ => by simp [sumL, sumN]
  | k + 1, hk => by rw [sumL_succ (by omega), sumN_succ, sumL_sumN h k (by omega), h k (by omega)]
theorem RowsIn.reads {w : World} {oa : Option Addr} {n : Nat} {Ln : Nat → Nat} (h : RowsIn w oa n Ln) (hn : n ≤ Room) (hL : ∀ r, r < n → Ln r ≤ Room) : ∃ R : List (List Int), R.length = n ∧ RowsAt w oa R ∧ ∀ r, r < n → (row R r).length = Ln r := by
  rcases Nat.eq_zero_or_pos n with h0 | h0
  · exact ⟨[], by simp [h0], ⟨by simp, fun h => absurd h (by simp)⟩, fun r hr => absurd hr (by omega)⟩
  · obtain ⟨b, off, e, hb, hr⟩ := h.rows h0
    have each : ∀ r, r < n → ∃ L : List Int, L.length = Ln r ∧ ∃ o c, w.cell? ⟨b, off + r, none⟩ = some (.slice o (Ln r) c) ∧ IntsAt w o L := fun r hrn => by
      obtain ⟨_, o, c, h1, h2⟩ := hr r hrn
      obtain ⟨L, h3, h4⟩ := h2 (hL r hrn)
      exact ⟨L, h3, o, c, h1, h4⟩
    have hch : ∃ f : Nat → List Int, ∀ r, r < n → (f r).length = Ln r ∧ ∃ o c, w.cell? ⟨b, off + r, none⟩ = some (.slice o (Ln r) c) ∧ IntsAt w o (f r) :=
      ⟨fun r => if hr : r < n then Classical.choose (each r hr) else [], fun r hr => by simp only [hr, dif_pos]; exact Classical.choose_spec (each r hr)⟩
    obtain ⟨f, hf⟩ := hch
    have er : ∀ k, k < n → row ((List.range n).map f) k = f k := fun k hk => by simp [row, List.getD, hk]
    refine ⟨(List.range n).map f, by simp, ⟨by simpa using hn, fun _ => ⟨b, off, e, hb, fun k hk => ?_⟩⟩, fun r hr => by rw [er r hr]; exact (hf r hr).1⟩
    have hk : k < n := by simpa using hk
    obtain ⟨h1, o, c, h2, h3⟩ := hf k hk
    exact ⟨o, c, by rw [er k hk, h1]; exact h2, by rw [er k hk]; exact h3⟩

theorem c_szIntSSs (oa) (n cap : Nat) (Ln : Nat → Nat) (w : World) (h : RowsIn w oa n Ln) :
    Calls Try.prog 88 #[.slice oa n cap, .int .i64 1048576] w fun e w' => (∃ x : Int, e = .returned (.int .i64 x) ∧ (x = -1 ∨ (0 ≤ x ∧ x ≤ 1048576 ∧ n ≤ 1048576 ∧ (n : Int) + sumN Ln n ≤ 1048576))) ∧ Below w.heap.size w w' := by
  have hn := h.len
  unfold maxLen at hn
  by_cases hbig : (1048576 : Int) < n
  · go_enter Try.func88, Try.ntmps88
    go_wp2
    go_ret
    exact ⟨⟨_, rfl, .inl rfl⟩, Below.refl _ _⟩
  go_enter Try.func88, Try.ntmps88
  go_wp2
  go_loopw [1, 5] (fun l i wr => ∃ (x : Int) (k : Nat), l = .int .i64 x ∧ i = .int .i64 k ∧ k ≤ n ∧ 0 ≤ x ∧ x ≤ 1048576 ∧ x + (n : Int) + sumN Ln k = 1048576 ∧ Below w.heap.size w wr) (fun _ i _ => n - (intOf i).toNat)
  case atStart => exact ⟨_, 0, rfl, rfl, Nat.zero_le _, by omega, by omega, by simp [sumN], Below.refl _ _⟩
  case round =>
    obtain ⟨x, k, rfl, rfl, hk, hx0, hx1, hall, hb⟩ := hrel
    have HA : Hid (x + (n : Int) + sumN Ln k = 1048576) := hall
    have HS : Hid (sumN Ln (k + 1) = sumN Ln k + Ln k) := sumN_succ Ln k
    clear hall
    by_cases hlt : k < n
    · obtain ⟨b, off, rfl, hbs, hc⟩ := h.rows (by omega)
      obtain ⟨hm, o, c, hc0, _⟩ := hc k hlt
      have hc1 := cell_keep hc0 hb
      clear hc hc0
      by_cases hle : (Ln k : Int) ≤ x
      · have e : (if (Ln k : Int) ≤ x then x - Ln k else -1) = x - Ln k := if_pos hle
        go_wp2_with fail
        refine (show Ans _ _ _ _ (.int .i64 (x - Ln k)) from e ▸ c_szIntS _ _ _ _ ⟨hx0, hx1⟩ hm _).mono ?_
        rintro en w1 ⟨rfl, hbn⟩
        replace hb := bel_to hb hbn
        clear hbn e
        go_wp2
        go_roundw
        case rel => exact ⟨x - Ln k, k + 1, rfl, by go_num, by omega, by omega, by omega, (by have h1 := HA.out; have h2 := HS.out; omega), hb⟩
        case measure => simp [intOf]; omega
      · have e : (if (Ln k : Int) ≤ x then x - Ln k else -1) = -1 := if_neg hle
        go_wp2_with fail
        refine (show Ans _ _ _ _ (.int .i64 (-1)) from e ▸ c_szIntS _ _ _ _ ⟨hx0, hx1⟩ hm _).mono ?_
        rintro en w1 ⟨rfl, hbn⟩
        replace hb := bel_to hb hbn
        clear hbn e
        go_wp2
        go_ret
        exact ⟨⟨_, rfl, .inl rfl⟩, hb⟩
    · have hkk : k = n := by omega
      have HK : Hid (k = n) := hkk
      clear hkk
      go_wp2
      go_ret
      exact ⟨⟨_, rfl, .inr ⟨hx0, hx1, by omega, (by have h1 := HA.out; have h2 := HK.out; rw [h2] at h1; omega)⟩⟩, hb⟩

theorem c_szTables (n : Int) (oa) (l cap : Nat) (Ln : Nat → Nat) (w : World) (h : RowsIn w oa l Ln) :
    Calls Try.prog 19 #[.agg #[.int .i64 n, .slice oa l cap], .int .i64 1048576] w fun e w' => (∃ x : Int, e = .returned (.int .i64 x) ∧ (x = -1 ∨ (0 ≤ x ∧ x ≤ 1048576 ∧ l ≤ 1048576 ∧ (l : Int) + sumN Ln l ≤ 1048576))) ∧ Below w.heap.size w w' := by
  have hb := (Below.refl w.heap.size w).alloc (Nat.le_refl _) (.cells #[.int .i64 n, .slice oa l cap] 36)
  have h2 : RowsIn (w.alloc (.cells #[.int .i64 n, .slice oa l cap] 36)) oa l Ln := ⟨h.len, fun h0 => by
    obtain ⟨b, off, e, hlt, hr⟩ := h.rows h0
    have hk := (Below.refl w.heap.size w).alloc (Nat.le_refl _) (.cells #[.int .i64 n, .slice oa l cap] 36)
    exact ⟨b, off, e, Nat.lt_of_lt_of_le hlt hk.size, fun r hrl => by
      obtain ⟨m, o, c, h1, h2⟩ := hr r hrl
      exact ⟨m, o, c, cell_keep h1 hk, fun hq => by
        obtain ⟨L, e1, e2⟩ := h2 hq
        exact ⟨L, e1, e2.keep hk⟩⟩⟩⟩
  go_enter Try.func19, Try.ntmps19
  go_wp2_with fail
  refine (c_szIntSSs _ _ _ _ _ h2).mono ?_
  rintro e w1 ⟨⟨x, rfl, hx⟩, hbn⟩
  replace hb := bel_to hb hbn
  clear hbn
  rcases hx with rfl | ⟨h0, h1, h3, h4⟩
  · go_wp2
    go_ret
    exact ⟨⟨_, rfl, .inl rfl⟩, hb⟩
  · go_wp2
    go_ret
    exact ⟨⟨_, rfl, .inr ⟨h0, h1, h3, h4⟩⟩, hb⟩
end Go.Proofs.Ytjbmpnbfiahdhaa
namespace Go.Proofs.Ytjbmpnbfiahdhaa
open Go.RowKit
set_option linter.unusedVariables false
set_option maxRecDepth 100000

def encB (b : Bool) : Value := .bool b
def bth (L : List Bool) (k : Nat) : Bool := L.getD k false
def OwnB (w : World) (base : Nat) (v : Value) (L : List Bool) : Prop := w.ownsRow base 4 1 v L.length (L.map encB)
theorem OwnB.keep {w w' : World} {base : Nat} {v : Value} {L : List Bool} (h : OwnB w base v L) (hb : Below w.heap.size w w') : OwnB w' base v L := owns_keep h hb
theorem OwnB.far {w w' : World} {base : Nat} {v v' : Value} {L : List Bool} (h : OwnB w base v L) (hg : w.grownBy w' v'.ownBlock) (ha : Apart v v') : OwnB w' base v L := World.ownsRow.kept h hg ha
theorem OwnB.based {w : World} {base base' : Nat} {v : Value} {L : List Bool} (h : OwnB w base v L) (hb : base' ≤ base) : OwnB w base' v L := owns_base h hb
theorem OwnB.past {w w' : World} {base : Nat} {M v v' : Value} {L : List Bool} {o : Obj} (h : OwnB w base M L) (hg : (w.alloc o).grownBy w' v.ownBlock) (ha : Apart M v) (hf : Fresh (w.alloc o) v v') : OwnB w' base M L ∧ Apart M v' :=
  ⟨OwnB.far (World.ownsRow.alloc h o) hg ha, Apart.next (World.ownsRow.alloc h o) ha hf⟩
theorem bth_eq {L : List Bool} {k : Nat} (hk : k < L.length) : L[k]? = some (bth L k) := by simp [bth, List.getD, hk]
theorem bth_set {L : List Bool} {j k : Nat} {x : Bool} (hj : j < L.length) : bth (L.set j x) k = if k = j then x else bth L k := by
  unfold bth List.getD
  rw [List.getElem?_set]
  by_cases h : j = k
  · subst h; simp [hj]
  · rw [if_neg h, if_neg (by omega)]
theorem OwnB.cell {w : World} {base g : Nat} {n cap : Nat} {L : List Bool} (h : OwnB w base (.slice (some ⟨g, 0, none⟩) n cap) L) (hn : n = L.length) (j : Nat) (hj : j < n) :
    w.cell? ⟨g, j, none⟩ = some (.bool (bth L j)) ∧ w.frozen? ⟨g, j, none⟩ = false := by
  subst hn
  refine ⟨?_, h.frozenAt j⟩
  rw [h.cellAt j (by omega), List.getElem?_map, bth_eq hj]; rfl
theorem OwnB.store {w : World} {base g : Nat} {n cap : Nat} {L : List Bool} (h : OwnB w base (.slice (some ⟨g, 0, none⟩) n cap) L) (hn : n = L.length) (j : Nat) (x : Bool) :
    OwnB (w.setCell ⟨g, j, none⟩ (.bool x)) base (.slice (some ⟨g, 0, none⟩) n cap) (L.set j x) := by
  subst hn
  have := (h.stored j (.bool x)).1
  unfold OwnB
  rw [List.length_set, List.map_set]
  exact this
theorem ownB_made {w : World} {base : Nat} {v : Value} {n : Nat} (h : w.ownsRow base 4 1 v n (madeCells (Value.cells (.bool false)) (n * 1)).toList) : OwnB w base v (List.replicate n false) := by
  have e : (madeCells (Value.cells (.bool false)) (n * 1)).toList = (List.replicate n false).map encB := by
    rw [Nat.mul_one]
    have : (Value.cells (.bool false)) = #[Value.bool false] := rfl
    rw [this, toList_madeCells_one, List.map_replicate]; rfl
  rw [e] at h
  unfold OwnB
  rw [List.length_replicate]
  exact h
theorem bth_replicate (n k : Nat) : bth (List.replicate n false) k = false := by
  unfold bth List.getD
  rw [List.getElem?_replicate]
  split <;> rfl
theorem info_bool : (Try.prog.info? 4).map (fun i => (i.zero, i.size, i.bytes)) = some (some (.bool false), 1, 1) := by kernel_rfl
theorem OwnI.single (w : World) (base : Nat) (hb : base ≤ w.heap.size) (x : Int) : OwnI (w.alloc (.cells #[.int .i64 x] 3)) base (.slice (some ⟨w.heap.size, 0, none⟩) 1 1) [x] :=
  World.ownsRow_lit w #[.int .i64 x] 1 hb (by decide) rfl

/-- A list of lists lies apart from a slice. -/
def ApartR (v : Value) (xs : List Value) (u : Value) : Prop := Apart v u ∧ ∀ y ∈ xs, Apart y u
theorem OwnRows.one {w : World} {B : Nat} {v : Value} {xs : List Value} {R : List (List Int)} (h : OwnRows w B v xs R) {y : Value} (hy : y ∈ xs) : ∃ j, j < R.length ∧ ∃ o c, y = .slice o (row R j).length c ∧ OwnI w B y (row R j) ∧ Apart v y := by
  obtain ⟨j, hj⟩ := List.mem_iff_getElem?.1 hy
  have hjl : j < R.length := by rw [← h.len]; exact (List.getElem?_eq_some_iff.1 hj).1
  obtain ⟨o, c, h1, h2, h3⟩ := h.rows j hjl
  rw [h1] at hj
  injection hj with hj
  exact ⟨j, hjl, o, c, hj.symm, by rw [← hj]; exact h2, by rw [← hj]; exact h3⟩
theorem OwnRows.fresh {w w' : World} {B size n : Nat} {e : TypeId} {u v : Value} {ys xs : List Value} {R : List (List Int)} (h : OwnRows w B v xs R) (h' : w'.ownsRow w.heap.size e size u n ys) : ApartR v xs u :=
  ⟨apart_old h.outer h', fun y hy => by obtain ⟨j, _, o, c, e, h2, _⟩ := h.one hy; exact apart_old h2 h'⟩
theorem OwnRows.past {w w' : World} {B : Nat} {v u u' : Value} {xs : List Value} {R : List (List Int)} {o : Obj} (h : OwnRows w B v xs R) (hg : (w.alloc o).grownBy w' u.ownBlock) (ha : ApartR v xs u) (hf : Fresh (w.alloc o) u u') : OwnRows w' B v xs R ∧ ApartR v xs u' := by
  have hk := h.keep ((Below.refl w.heap.size w).alloc (Nat.le_refl _) o)
  refine ⟨⟨h.len, World.ownsRow.kept hk.outer hg ha.1, fun j hj => ?_, h.pair⟩, Apart.next hk.outer ha.1 hf, fun y hy => ?_⟩
  · obtain ⟨o', c, h1, h2, h3⟩ := hk.rows j hj
    exact ⟨o', c, h1, h2.far hg (ha.2 _ (List.mem_iff_getElem?.2 ⟨j, h1⟩)), h3⟩
  · obtain ⟨j, _, o', c, e, h2, _⟩ := hk.one hy
    exact Apart.next h2 (ha.2 y hy) hf
theorem OwnRows.far {w w' : World} {B : Nat} {v u : Value} {xs : List Value} {R : List (List Int)} (h : OwnRows w B v xs R) (hg : w.grownBy w' u.ownBlock) (ha : ApartR v xs u) : OwnRows w' B v xs R := by
  refine ⟨h.len, World.ownsRow.kept h.outer hg ha.1, fun j hj => ?_, h.pair⟩
  obtain ⟨o', c, h1, h2, h3⟩ := h.rows j hj
  exact ⟨o', c, h1, h2.far hg (ha.2 _ (List.mem_iff_getElem?.2 ⟨j, h1⟩)), h3⟩
theorem row_append_lt {R S : List (List Int)} {j : Nat} (h : j < R.length) : row (R ++ S) j = row R j := by simp [row, List.getD, List.getElem?_append_left h]
theorem row_append_end {R : List (List Int)} {C : List Int} : row (R ++ [C]) R.length = C := by simp [row, List.getD]
/-- A slice of the call's own is appended. -/
theorem OwnRows.snoc {w w' : World} {B : Nat} {v v' : Value} {o : Option Addr} {c : Nat} {xs : List Value} {R : List (List Int)} {C : List Int} {ob : Obj} (h : OwnRows w B v xs R) (hC : OwnI w B (.slice o C.length c) C) (ha : ApartR v xs (.slice o C.length c))
    (hown : w'.ownsRow B 68 1 v' (xs.length + 1) (xs ++ [.slice o C.length c])) (hg : (w.alloc ob).grownBy w' v.ownBlock) (hf : Fresh (w.alloc ob) v v') : OwnRows w' B v' (xs ++ [.slice o C.length c]) (R ++ [C]) := by
  have hk := h.keep ((Below.refl w.heap.size w).alloc (Nat.le_refl _) ob)
  have hCk := hC.keep ((Below.refl w.heap.size w).alloc (Nat.le_refl _) ob)
  have hl := h.len
  refine ⟨by simp [hl], by unfold OwnV; rw [List.length_append]; exact hown, fun j hj => ?_, fun i j hij hj u u' hu hu' => ?_⟩
  · rw [List.length_append, List.length_singleton] at hj
    rcases Nat.lt_or_ge j R.length with hjl | hjl
    · rw [row_append_lt hjl]
      obtain ⟨o', c', h1, h2, h3⟩ := hk.rows j hjl
      refine ⟨o', c', by rw [List.getElem?_append_left (by omega)]; exact h1, h2.far hg h3.symm, (Apart.next h2 h3.symm hf).symm⟩
    · have e : j = R.length := by omega
      subst e
      rw [row_append_end]
      exact ⟨o, c, by rw [← hl]; simp, hCk.far hg ha.1.symm, (Apart.next hCk ha.1.symm hf).symm⟩
  · rw [List.length_append, List.length_singleton] at hj
    rw [List.getElem?_append_left (by omega)] at hu
    rcases Nat.lt_or_ge j R.length with hjl | hjl
    · rw [List.getElem?_append_left (by omega)] at hu'
      exact h.pair i j hij hjl u u' hu hu'
    · have e : j = xs.length := by omega
      subst e
      simp at hu'
      subst hu'
      exact ha.2 u (List.mem_iff_getElem?.2 ⟨i, hu⟩)
theorem OwnRows.apartFrom {w w' : World} {B size n : Nat} {e : TypeId} {u u' v : Value} {ys xs : List Value} {R : List (List Int)} (h : OwnRows w B v xs R) : True := trivial
theorem OwnRows.empty (w : World) (base : Nat) (hb : base ≤ w.heap.size) : OwnRows (w.alloc (.cells #[] 68)) base (.slice (some ⟨w.heap.size, 0, none⟩) 0 0) [] [] :=
  ⟨rfl, World.ownsRow_lit w #[] 0 hb (Nat.zero_le _) rfl, fun j hj => absurd hj (by simp), fun i j _ hj => absurd hj (by simp)⟩
theorem OwnRows.none (w : World) (base : Nat) : OwnRows w base (.slice none 0 0) [] [] :=
  ⟨rfl, World.ownsRow_nil w base _ _, fun j hj => absurd hj (by simp), fun i j _ hj => absurd hj (by simp)⟩
end Go.Proofs.Ytjbmpnbfiahdhaa
namespace Go.Proofs.Ytjbmpnbfiahdhaa
open Go.RowKit
theorem heap_two (w : World) (o1 o2 : Obj) : ((w.alloc o1).alloc o2).heap[w.heap.size + 1]? = some o2 := by
  have := heap_alloc_new (w.alloc o1) o2
  rwa [World.size_alloc] at this
end Go.Proofs.Ytjbmpnbfiahdhaa
namespace Go.Proofs.Ytjbmpnbfiahdhaa
open Go.RowKit
set_option linter.unusedVariables false
set_option maxRecDepth 100000

theorem c_l2Ints (oa ob) (ca cb : Nat) (L M : List Int) (w : World) (hL : IntsAt w oa L) (hM : IntsAt w ob M) :
    Ans Try.prog 139 #[.slice oa L.length ca, .slice ob M.length cb] w (.bool (decide (L = M))) := by
  unfold Ans
  have hn : L.length ≤ 1073741824 := hL.len
  by_cases hlen : L.length = M.length
  · have hb0 : ((L.length : Int) != (M.length : Int)) = false := bne_false (by omega)
    have HL : Hid (L.length = M.length) := hlen
    have hlm : L.length ≤ M.length := by omega
    clear hlen
    go_enter Try.func139, Try.ntmps139
    go_wp2
    go_loopw [5] (fun i wr => ∃ k : Nat, i = .int .i64 k ∧ k ≤ L.length ∧ (∀ j, j < k → nth L j = nth M j) ∧ Below w.heap.size w wr) (fun i _ => L.length - (intOf i).toNat)
    case atStart => exact ⟨0, rfl, Nat.zero_le _, fun j hj => absurd hj (by omega), Below.refl _ _⟩
    case round =>
      obtain ⟨k, rfl, hk, hall, hb⟩ := hrel
      have HA : Hid (∀ j, j < k → nth L j = nth M j) := hall
      clear hall
      by_cases hlt : k < L.length
      · obtain ⟨b, off, rfl, hbs, hc⟩ := hL.at_ (by omega)
        obtain ⟨b', off', rfl, hbs', hc'⟩ := hM.at_ (by omega)
        have hc1 := cell_keep (hc k hlt) hb
        have hc2 := cell_keep (hc' k (by omega)) hb
        clear hc hc'
        by_cases he : nth L k = nth M k
        · have hne := bne_false he
          have HE : Hid (nth L k = nth M k) := he
          clear he
          go_wp2_with fail
          (refine wp_region_after (by kernel_rfl) (by kernel_rfl) ?_; have q_hc1 := fun (x : After _) => cell_keep hc1 x.bel; have q_hc2 := fun (x : After _) => cell_keep hc2 x.bel; (repeat (go_big_quiet_step (fail))); clear q_hc1; clear q_hc2; refine wpQuiet_nil ?_; rintro _ ⟨⟨w1, hbn⟩, rfl⟩; (try simp only [After.w]); replace hc1 := cell_keep hc1 hbn; replace hc2 := cell_keep hc2 hbn; replace hb := bel_to (w := w) (by first | exact hb | exact hb.alloc hb.size _ | exact (hb.alloc hb.size _).alloc (Nat.le_trans hb.size (by simp)) _ | exact hb.setCell (by simp [hb.size]) _) hbn; clear hbn)
          go_wp2
          go_roundw
          case rel => exact ⟨k + 1, by go_num, by omega, lt_step HA.out HE.out, hb⟩
          case measure => simp [intOf]; omega
        · have hne := bne_true he
          go_wp2_with fail
          (refine wp_region_after (by kernel_rfl) (by kernel_rfl) ?_; have q_hc1 := fun (x : After _) => cell_keep hc1 x.bel; have q_hc2 := fun (x : After _) => cell_keep hc2 x.bel; (repeat (go_big_quiet_step (fail))); clear q_hc1; clear q_hc2; refine wpQuiet_nil ?_; rintro _ ⟨⟨w1, hbn⟩, rfl⟩; (try simp only [After.w]); replace hc1 := cell_keep hc1 hbn; replace hc2 := cell_keep hc2 hbn; replace hb := bel_to (w := w) (by first | exact hb | exact hb.alloc hb.size _ | exact (hb.alloc hb.size _).alloc (Nat.le_trans hb.size (by simp)) _ | exact hb.setCell (by simp [hb.size]) _) hbn; clear hbn)
          go_wp2
          go_ret
          exact ⟨ret_bool (by symm; rw [decide_eq_false_iff_not]; intro e; exact he (by rw [e])), hb⟩
      · have hkk : k = L.length := by omega
        have HK := Hid (k = L.length)
        clear hkk
        go_wp2
        go_ret
        exact ⟨ret_bool (by symm; rw [decide_eq_true_iff]; exact list_ext HL.out fun j hj => HA.out j (by omega)), hb⟩
  · have hb0 : ((L.length : Int) != (M.length : Int)) = true := bne_true (by omega)
    go_enter Try.func139, Try.ntmps139
    go_wp2
    go_ret
    exact ⟨ret_bool (by symm; rw [decide_eq_false_iff_not]; intro e; exact hlen (by rw [e])), Below.refl _ _⟩

end Go.Proofs.Ytjbmpnbfiahdhaa
namespace Go.Proofs.Ytjbmpnbfiahdhaa
open Go.RowKit
set_option linter.unusedVariables false
set_option maxRecDepth 100000

/-- x & y == 0 -/
def apart (x y : Int) : Bool := bits BinOp.and .i64 x y == 0
def hitsF (L : List Int) (x : Int) : Bool := L.all fun e => !apart e x
def setsF (L : List Int) : Bool := L.all stB

theorem all_take_succ (p : Int → Bool) (L : List Int) (k : Nat) (hk : k < L.length) : (L.take (k + 1)).all p = ((L.take k).all p && p (nth L k)) := by
  rw [List.take_add_one, nth_eq hk]; simp
theorem all_false (p : Int → Bool) (L : List Int) (k : Nat) (hk : k < L.length) (h : p (nth L k) = false) : L.all p = false := by
  rw [List.all_eq_false]
  exact ⟨nth L k, List.mem_iff_getElem?.2 ⟨k, nth_eq hk⟩, by simp [h]⟩

theorem c_hits (oa) (cap : Nat) (L : List Int) (x : Int) (w : World) (hL : IntsAt w oa L) :
    Ans Try.prog 190 #[.slice oa L.length cap, .int .i64 x] w (.bool (hitsF L x)) := by
  unfold Ans
  have hn : L.length ≤ 1073741824 := hL.len
  go_enter Try.func190, Try.ntmps190
  go_wp2
  go_loop [9] (fun i => ∃ k : Nat, i = .int .i64 k ∧ k ≤ L.length ∧ (L.take k).all (fun e => !apart e x) = true) (fun i => L.length - (intOf i).toNat)
  case atStart => exact ⟨0, rfl, Nat.zero_le _, by simp⟩
  case round =>
    obtain ⟨k, rfl, hk, hall⟩ := hrel
    by_cases hlt : k < L.length
    · obtain ⟨b, off, rfl, hbs, hc⟩ := hL.at_ (by omega)
      have hc1 := hc k hlt
      have hts := all_take_succ (fun e => !apart e x) L k hlt
      have hf := all_false (fun e => !apart e x) L k hlt
      have HT : Hid ((L.take (k + 1)).all (fun e => !apart e x) = ((L.take k).all (fun e => !apart e x) && !apart (nth L k) x)) := hts
      have HF : Hid ((!apart (nth L k) x) = false → hitsF L x = false) := hf
      have HA : Hid ((L.take k).all (fun e => !apart e x) = true) := hall
      clear hts hf hall hc
      cases hap : (bits BinOp.and IntKind.i64 (nth L k) x == 0)
      · go_wp2
        go_round
        case rel => exact ⟨k + 1, by go_num, by omega, by rw [HT.out, HA.out]; unfold apart; rw [hap]; rfl⟩
        case measure => simp [intOf]; omega
      · go_wp2
        go_ret
        exact ⟨ret_bool (HF.out (by unfold apart; rw [hap]; rfl)).symm, Below.refl _ _⟩
    · have hkk : k = L.length := by omega
      have HA : Hid ((L.take k).all (fun e => !apart e x) = true) := hall
      clear hall
      go_wp2
      go_ret
      exact ⟨ret_bool (by have := HA.out; rw [hkk, List.take_length] at this; exact this.symm), Below.refl _ _⟩
theorem hits_same (L : List Int) (x : Int) : (L.all (fun e => stB e && !apart e x) && stB x) = (setsF L && (stB x && hitsF L x)) := by
  have h : ∀ L : List Int, L.all (fun e => stB e && !apart e x) = (setsF L && hitsF L x) := by
    intro L
    induction L with
    | nil => rfl
    | cons a L ih =>
      simp only [setsF, hitsF, List.all_cons] at ih ⊢
      rw [ih]
      cases stB a <;> cases apart a x <;> cases L.all stB <;> rfl
  rw [h]
  cases setsF L <;> cases hitsF L x <;> cases stB x <;> rfl
def hitsAllF (L : List Int) (x : Int) : Bool := setsF L && (stB x && hitsF L x)
end Go.Proofs.Ytjbmpnbfiahdhaa
namespace Go.Proofs.Ytjbmpnbfiahdhaa
open Go.RowKit
set_option linter.unusedVariables false
set_option maxRecDepth 100000

def rowOk (n : Int) (L : List Int) : Bool := L.all (fun v => inB v (-1) 40) && ((L.length : Int) == n)
def isTabF (n : Int) (R : List (List Int)) : Bool := R.all (rowOk n) && (decide (1 ≤ n) && decide (n ≤ 5) && decide (R.length ≤ 40))
def modeF (m : Int) : Bool := (m == 0) || (m == 1)
def eqCellF (m a b : Int) : Bool := modeF m && ((a == b) && ((m == 0) || (a != -1)))
def agreeStep (m : Int) (A B : List Int) (x : Int) (c : Nat) : Int := if eqCellF m (nth A c) (nth B c) then uni x (one c) else x
def agreeF (m : Int) (A B : List Int) : Int := (List.range A.length).foldl (agreeStep m A B) 0
theorem rall_take_succ (p : List Int → Bool) (R : List (List Int)) (k : Nat) (hk : k < R.length) : (R.take (k + 1)).all p = ((R.take k).all p && p (row R k)) := by
  rw [List.take_add_one, row_eq hk]; simp
theorem rall_false (p : List Int → Bool) (R : List (List Int)) (k : Nat) (hk : k < R.length) (h : p (row R k) = false) : R.all p = false := by
  rw [List.all_eq_false]
  exact ⟨row R k, row_mem hk, by simp [h]⟩
theorem range_succ_fold {α : Type} (f : α → Nat → α) (z : α) (k : Nat) : (List.range (k + 1)).foldl f z = f ((List.range k).foldl f z) k := by
  rw [List.range_succ, List.foldl_append]; rfl

theorem c_isRow (oa) (cap : Nat) (L : List Int) (n : Int) (w : World) (hL : IntsAt w oa L) :
    Ans Try.prog 144 #[.slice oa L.length cap, .int .i64 n] w (.bool (rowOk n L)) := by
  unfold Ans
  have hn : L.length ≤ 1073741824 := hL.len
  go_enter Try.func144, Try.ntmps144
  go_wp2
  go_loop [9] (fun i => ∃ k : Nat, i = .int .i64 k ∧ k ≤ L.length ∧ (L.take k).all (fun v => inB v (-1) 40) = true) (fun i => L.length - (intOf i).toNat)
  case atStart => exact ⟨0, rfl, Nat.zero_le _, by simp⟩
  case round =>
    obtain ⟨k, rfl, hk, hall⟩ := hrel
    have HA : Hid ((L.take k).all (fun v => inB v (-1) 40) = true) := hall
    clear hall
    by_cases hlt : k < L.length
    · obtain ⟨b, off, rfl, hbs, hc⟩ := hL.at_ (by omega)
      have hc1 := hc k hlt
      have HT : Hid ((L.take (k + 1)).all (fun v => inB v (-1) 40) = ((L.take k).all (fun v => inB v (-1) 40) && inB (nth L k) (-1) 40)) := all_take_succ _ L k hlt
      have HF : Hid (inB (nth L k) (-1) 40 = false → L.all (fun v => inB v (-1) 40) = false) := all_false (fun v => inB v (-1) 40) L k hlt
      clear hc
      generalize nth L k = v at *
      by_cases h1 : v < -1
      · have HX : Hid (inB v (-1) 40 = false) := by show inB v (-1) 40 = false; simp [inB]; omega
        go_wp2
        go_ret
        exact ⟨ret_bool (by unfold rowOk; rw [HF.out HX.out]; rfl), Below.refl _ _⟩
      by_cases h2 : 40 < v
      · have HX : Hid (inB v (-1) 40 = false) := by show inB v (-1) 40 = false; simp [inB]; omega
        go_wp2
        go_ret
        exact ⟨ret_bool (by unfold rowOk; rw [HF.out HX.out]; rfl), Below.refl _ _⟩
      · have HX : Hid (inB v (-1) 40 = true) := by show inB v (-1) 40 = true; simp [inB]; omega
        go_wp2
        go_round
        case rel => exact ⟨k + 1, by go_num, by omega, by rw [HT.out, HA.out, HX.out]; rfl⟩
        case measure => simp [intOf]; omega
    · have hkk : k = L.length := by omega
      have HS : Hid (L.all (fun v => inB v (-1) 40) = true) := by have := HA.out; rw [hkk, List.take_length] at this; exact this
      clear hkk
      go_wp2
      go_ret
      exact ⟨ret_bool (by unfold rowOk; rw [HS.out]; rfl), Below.refl _ _⟩
theorem c_l3Row (oa) (cap : Nat) (L : List Int) (n : Int) (w : World) (hL : IntsAt w oa L) :
    Ans Try.prog 154 #[.slice oa L.length cap, .int .i64 n] w (.bool (rowOk n L)) := by
  unfold Ans
  have hn : L.length ≤ 1073741824 := hL.len
  go_enter Try.func154, Try.ntmps154
  go_wp2
  go_loopw [5] (fun i wr => ∃ k : Nat, i = .int .i64 k ∧ k ≤ L.length ∧ (L.take k).all (fun v => inB v (-1) 40) = true ∧ Below w.heap.size w wr) (fun i _ => L.length - (intOf i).toNat)
  case atStart => exact ⟨0, rfl, Nat.zero_le _, by simp, Below.refl _ _⟩
  case round =>
    obtain ⟨k, rfl, hk, hall, hb⟩ := hrel
    have HA : Hid ((L.take k).all (fun v => inB v (-1) 40) = true) := hall
    clear hall
    by_cases hlt : k < L.length
    · obtain ⟨b, off, rfl, hbs, hc⟩ := hL.at_ (by omega)
      have hc1 := cell_keep (hc k hlt) hb
      have HT : Hid ((L.take (k + 1)).all (fun v => inB v (-1) 40) = ((L.take k).all (fun v => inB v (-1) 40) && inB (nth L k) (-1) 40)) := all_take_succ _ L k hlt
      have HF : Hid (inB (nth L k) (-1) 40 = false → L.all (fun v => inB v (-1) 40) = false) := all_false (fun v => inB v (-1) 40) L k hlt
      clear hc
      generalize nth L k = v at *
      cases hin : inB v (-1) 40
      · go_wp2_with (first | (go_at_call 109; refine Calls.mono (Ans.eqb (c_l1In _ _ _ _) hin) ?_; rintro e w1 ⟨rfl, hbn⟩; replace hb := bel_to (w := w) (by first | exact hb | exact hb.alloc hb.size _ | exact (hb.alloc hb.size _).alloc (Nat.le_trans hb.size (by simp)) _ | exact hb.setCell (by simp [hb.size]) _) hbn; clear hbn))
        go_ret
        exact ⟨ret_bool (by unfold rowOk; rw [HF.out hin]; rfl), hb⟩
      · go_wp2_with (first | (go_at_call 109; refine Calls.mono (Ans.eqb (c_l1In _ _ _ _) hin) ?_; rintro e w1 ⟨rfl, hbn⟩; replace hb := bel_to (w := w) (by first | exact hb | exact hb.alloc hb.size _ | exact (hb.alloc hb.size _).alloc (Nat.le_trans hb.size (by simp)) _ | exact hb.setCell (by simp [hb.size]) _) hbn; clear hbn))
        go_roundw
        case rel => exact ⟨k + 1, by go_num, by omega, by rw [HT.out, HA.out, hin]; rfl, hb⟩
        case measure => simp [intOf]; omega
    · have hkk : k = L.length := by omega
      have HS : Hid (L.all (fun v => inB v (-1) 40) = true) := by have := HA.out; rw [hkk, List.take_length] at this; exact this
      clear hkk
      go_wp2
      go_ret
      exact ⟨ret_bool (by unfold rowOk; rw [HS.out]; rfl), hb⟩
theorem c_isMode (m : Int) (w : World) : Ans Try.prog 92 #[.int .i64 m] w (.bool (modeF m)) := by
  unfold Ans modeF
  go_enter Try.func92, Try.ntmps92
  cases h0 : (m == 0)
  · go_wp2
    go_ret
    exact ⟨rfl, Below.refl _ _⟩
  · go_wp2
    go_ret
    exact ⟨rfl, Below.refl _ _⟩
theorem c_l4Mode (m : Int) (w : World) : Ans Try.prog 159 #[.int .i64 m] w (.bool (modeF m)) := by
  unfold Ans modeF
  go_enter Try.func159, Try.ntmps159
  cases h0 : (m == 0)
  · go_wp2
    go_ret
    exact ⟨rfl, Below.refl _ _⟩
  · go_wp2
    go_ret
    exact ⟨rfl, Below.refl _ _⟩
theorem c_EqualCells (m a b : Int) (w : World) : Ans Try.prog 121 #[.int .i64 m, .int .i64 a, .int .i64 b] w (.bool (eqCellF m a b)) := by
  unfold Ans eqCellF
  have hb := Below.refl w.heap.size w
  go_enter Try.func121, Try.ntmps121
  cases hm : modeF m
  · go_wp2_with (first | (go_at_call 92; refine Calls.mono (Ans.eqb (c_isMode _ _) hm) ?_; rintro e w1 ⟨rfl, hbn⟩; replace hb := bel_to (w := w) (by first | exact hb | exact hb.alloc hb.size _ | exact (hb.alloc hb.size _).alloc (Nat.le_trans hb.size (by simp)) _ | exact hb.setCell (by simp [hb.size]) _) hbn; clear hbn))
    go_ret
    exact ⟨rfl, hb⟩
  · cases hab : (a == b)
    · go_wp2_with (first | (go_at_call 92; refine Calls.mono (Ans.eqb (c_isMode _ _) hm) ?_; rintro e w1 ⟨rfl, hbn⟩; replace hb := bel_to (w := w) (by first | exact hb | exact hb.alloc hb.size _ | exact (hb.alloc hb.size _).alloc (Nat.le_trans hb.size (by simp)) _ | exact hb.setCell (by simp [hb.size]) _) hbn; clear hbn))
      go_ret
      exact ⟨rfl, hb⟩
    · cases h0 : (m == 0)
      · go_wp2_with (first | (go_at_call 92; refine Calls.mono (Ans.eqb (c_isMode _ _) hm) ?_; rintro e w1 ⟨rfl, hbn⟩; replace hb := bel_to (w := w) (by first | exact hb | exact hb.alloc hb.size _ | exact (hb.alloc hb.size _).alloc (Nat.le_trans hb.size (by simp)) _ | exact hb.setCell (by simp [hb.size]) _) hbn; clear hbn))
        go_ret
        exact ⟨rfl, hb⟩
      · go_wp2_with (first | (go_at_call 92; refine Calls.mono (Ans.eqb (c_isMode _ _) hm) ?_; rintro e w1 ⟨rfl, hbn⟩; replace hb := bel_to (w := w) (by first | exact hb | exact hb.alloc hb.size _ | exact (hb.alloc hb.size _).alloc (Nat.le_trans hb.size (by simp)) _ | exact hb.setCell (by simp [hb.size]) _) hbn; clear hbn))
        go_ret
        exact ⟨rfl, hb⟩
theorem c_specEqualCells (m a b : Int) (w : World) : Ans Try.prog 175 #[.int .i64 m, .int .i64 a, .int .i64 b] w (.bool (eqCellF m a b)) := by
  unfold Ans eqCellF
  have hb := Below.refl w.heap.size w
  go_enter Try.func175, Try.ntmps175
  cases hm : modeF m
  · go_wp2_with (first | (go_at_call 159; refine Calls.mono (Ans.eqb (c_l4Mode _ _) hm) ?_; rintro e w1 ⟨rfl, hbn⟩; replace hb := bel_to (w := w) (by first | exact hb | exact hb.alloc hb.size _ | exact (hb.alloc hb.size _).alloc (Nat.le_trans hb.size (by simp)) _ | exact hb.setCell (by simp [hb.size]) _) hbn; clear hbn))
    go_ret
    exact ⟨rfl, hb⟩
  · cases hab : (a == b)
    · go_wp2_with (first | (go_at_call 159; refine Calls.mono (Ans.eqb (c_l4Mode _ _) hm) ?_; rintro e w1 ⟨rfl, hbn⟩; replace hb := bel_to (w := w) (by first | exact hb | exact hb.alloc hb.size _ | exact (hb.alloc hb.size _).alloc (Nat.le_trans hb.size (by simp)) _ | exact hb.setCell (by simp [hb.size]) _) hbn; clear hbn))
      go_ret
      exact ⟨rfl, hb⟩
    · cases h0 : (m == 0)
      · go_wp2_with (first | (go_at_call 159; refine Calls.mono (Ans.eqb (c_l4Mode _ _) hm) ?_; rintro e w1 ⟨rfl, hbn⟩; replace hb := bel_to (w := w) (by first | exact hb | exact hb.alloc hb.size _ | exact (hb.alloc hb.size _).alloc (Nat.le_trans hb.size (by simp)) _ | exact hb.setCell (by simp [hb.size]) _) hbn; clear hbn))
        go_ret
        exact ⟨rfl, hb⟩
      · go_wp2_with (first | (go_at_call 159; refine Calls.mono (Ans.eqb (c_l4Mode _ _) hm) ?_; rintro e w1 ⟨rfl, hbn⟩; replace hb := bel_to (w := w) (by first | exact hb | exact hb.alloc hb.size _ | exact (hb.alloc hb.size _).alloc (Nat.le_trans hb.size (by simp)) _ | exact hb.setCell (by simp [hb.size]) _) hbn; clear hbn))
        go_ret
        exact ⟨rfl, hb⟩
end Go.Proofs.Ytjbmpnbfiahdhaa
namespace Go.Proofs.Ytjbmpnbfiahdhaa
open Go.RowKit
set_option linter.unusedVariables false
set_option maxRecDepth 100000

theorem isTab_of {n : Int} {R : List (List Int)} (h : isTabF n R = true) : 1 ≤ n ∧ n ≤ 5 ∧ R.length ≤ 40 ∧ ∀ k, k < R.length → ((row R k).length : Int) = n := by
  unfold isTabF at h
  simp only [Bool.and_eq_true, decide_eq_true_eq] at h
  refine ⟨h.2.1.1, h.2.1.2, h.2.2, fun k hk => ?_⟩
  have := List.all_eq_true.1 h.1 _ (row_mem hk)
  unfold rowOk at this
  simp only [Bool.and_eq_true, beq_iff_eq] at this
  exact this.2
theorem c_IsTable (n : Int) (oa) (cap : Nat) (R : List (List Int)) (w : World) (hR : RowsAt w oa R) :
    Ans Try.prog 67 #[.agg #[.int .i64 n, .slice oa R.length cap]] w (.bool (isTabF n R)) := by
  unfold Ans
  have hn : R.length ≤ 1073741824 := hR.len
  have hb := (Below.refl w.heap.size w).alloc (Nat.le_refl _) (.cells #[.int .i64 n, .slice oa R.length cap] 26)
  have b0 := box_at w #[.int .i64 n, .slice oa R.length cap] 26 0 _ rfl
  have b1 := box_at w #[.int .i64 n, .slice oa R.length cap] 26 1 _ rfl
  by_cases h1 : n < 1
  · go_enter Try.func67, Try.ntmps67
    go_wp2
    go_ret
    exact ⟨ret_bool (by unfold isTabF; rw [decide_eq_false (show ¬ (1 ≤ n) by omega)]; simp), hb⟩
  by_cases h5 : 5 < n
  · go_enter Try.func67, Try.ntmps67
    go_wp2
    go_ret
    exact ⟨ret_bool (by unfold isTabF; rw [decide_eq_false (show ¬ (n ≤ 5) by omega)]; simp), hb⟩
  by_cases h40 : 40 < R.length
  · go_enter Try.func67, Try.ntmps67
    go_wp2
    go_ret
    exact ⟨ret_bool (by unfold isTabF; rw [decide_eq_false (show ¬ (R.length ≤ 40) by omega)]; simp), hb⟩
  have HB : Hid (∀ b, R.all (rowOk n) = b → isTabF n R = b) := fun b h => by
    unfold isTabF; rw [h, decide_eq_true (show 1 ≤ n by omega), decide_eq_true (show n ≤ 5 by omega), decide_eq_true (show R.length ≤ 40 by omega)]; simp
  go_enter Try.func67, Try.ntmps67
  go_wp2
  go_loopw [22] (fun i wr => ∃ k : Nat, i = .int .i64 k ∧ k ≤ R.length ∧ (R.take k).all (rowOk n) = true ∧ wr.cell? ⟨w.heap.size, 0, none⟩ = some (.int .i64 n) ∧ Below w.heap.size w wr) (fun i _ => R.length - (intOf i).toNat)
  case atStart => exact ⟨0, rfl, Nat.zero_le _, by simp, b0, hb⟩
  case round =>
    clear b0 b1 hb
    obtain ⟨k, rfl, hk, hall, b0, hb⟩ := hrel
    have HA : Hid ((R.take k).all (rowOk n) = true) := hall
    clear hall
    by_cases hlt : k < R.length
    · obtain ⟨b, off, rfl, hbs, hc⟩ := hR.at_ (by omega)
      obtain ⟨o, c, h1', hr⟩ := hc k hlt
      have hc1 := cell_keep h1' hb
      have HT : Hid ((R.take (k + 1)).all (rowOk n) = ((R.take k).all (rowOk n) && rowOk n (row R k))) := rall_take_succ _ R k hlt
      have HF : Hid (rowOk n (row R k) = false → R.all (rowOk n) = false) := rall_false _ R k hlt
      clear hc h1'
      generalize row R k = L at *
      cases hok : rowOk n L
      · go_wp2_with (first | (go_at_call 144; refine Calls.mono (Ans.eqb (c_isRow _ _ _ _ _ (hr.keep hb)) hok) ?_; rintro e w1 ⟨rfl, hbn⟩; replace b0 := cell_keep b0 hbn; replace hb := bel_to (w := w) (by first | exact hb | exact hb.alloc hb.size _ | exact (hb.alloc hb.size _).alloc (Nat.le_trans hb.size (by simp)) _ | exact hb.setCell (by simp [hb.size]) _) hbn; clear hbn))
        go_ret
        exact ⟨ret_bool (HB.out _ (HF.out hok)).symm, hb⟩
      · go_wp2_with (first | (go_at_call 144; refine Calls.mono (Ans.eqb (c_isRow _ _ _ _ _ (hr.keep hb)) hok) ?_; rintro e w1 ⟨rfl, hbn⟩; replace b0 := cell_keep b0 hbn; replace hb := bel_to (w := w) (by first | exact hb | exact hb.alloc hb.size _ | exact (hb.alloc hb.size _).alloc (Nat.le_trans hb.size (by simp)) _ | exact hb.setCell (by simp [hb.size]) _) hbn; clear hbn))
        go_roundw
        case rel => exact ⟨k + 1, by go_num, by omega, by rw [HT.out, HA.out, hok]; rfl, b0, hb⟩
        case measure => simp [intOf]; omega
    · have hkk : k = R.length := by omega
      have HS : Hid (R.all (rowOk n) = true) := by have := HA.out; rw [hkk, List.take_length] at this; exact this
      clear hkk
      go_wp2
      go_ret
      exact ⟨ret_bool (HB.out _ HS.out).symm, hb⟩
theorem c_specIsTable (n : Int) (oa) (cap : Nat) (R : List (List Int)) (w : World) (hR : RowsAt w oa R) :
    Ans Try.prog 76 #[.agg #[.int .i64 n, .slice oa R.length cap]] w (.bool (isTabF n R)) := by
  unfold Ans
  have hn : R.length ≤ 1073741824 := hR.len
  have hb := (Below.refl w.heap.size w).alloc (Nat.le_refl _) (.cells #[.int .i64 n, .slice oa R.length cap] 26)
  have b0 := box_at w #[.int .i64 n, .slice oa R.length cap] 26 0 _ rfl
  have b1 := box_at w #[.int .i64 n, .slice oa R.length cap] 26 1 _ rfl
  go_enter Try.func76, Try.ntmps76
  go_wp2
  go_loopw [3] (fun i wr => ∃ k : Nat, i = .int .i64 k ∧ k ≤ R.length ∧ (R.take k).all (rowOk n) = true ∧ wr.cell? ⟨w.heap.size, 0, none⟩ = some (.int .i64 n) ∧ wr.cell? ⟨w.heap.size, 1, none⟩ = some (.slice oa R.length cap) ∧ Below w.heap.size w wr) (fun i _ => R.length - (intOf i).toNat)
  case atStart => exact ⟨0, rfl, Nat.zero_le _, by simp, b0, b1, hb⟩
  case round =>
    clear b0 b1 hb
    obtain ⟨k, rfl, hk, hall, b0, b1, hb⟩ := hrel
    have HA : Hid ((R.take k).all (rowOk n) = true) := hall
    clear hall
    by_cases hlt : k < R.length
    · obtain ⟨b, off, rfl, hbs, hc⟩ := hR.at_ (by omega)
      obtain ⟨o, c, h1', hr⟩ := hc k hlt
      have hc1 := cell_keep h1' hb
      have hx := fun (x : After wr) => (hr.keep hb).keep x.bel
      have HT : Hid ((R.take (k + 1)).all (rowOk n) = ((R.take k).all (rowOk n) && rowOk n (row R k))) := rall_take_succ _ R k hlt
      have HF : Hid (rowOk n (row R k) = false → R.all (rowOk n) = false) := rall_false _ R k hlt
      clear hc h1'
      generalize row R k = L at *
      cases hok : rowOk n L
      · go_wp2_with fail
        (refine wp_region_after (by kernel_rfl) (by kernel_rfl) ?_; have q_b0 := fun (x : After _) => cell_keep b0 x.bel; have q_b1 := fun (x : After _) => cell_keep b1 x.bel; have q_hc1 := fun (x : After _) => cell_keep hc1 x.bel; (repeat (go_big_quiet_step ((first | (go_at_call 154; exact Ans.after (Ans.eqb (c_l3Row _ _ _ _ _ (hx _)) hok)))))); clear q_b0; clear q_b1; clear q_hc1; refine wpQuiet_nil ?_; rintro _ ⟨⟨w1, hbn⟩, rfl⟩; (try simp only [After.w]); replace b0 := cell_keep b0 hbn; replace b1 := cell_keep b1 hbn; replace hc1 := cell_keep hc1 hbn; replace hb := bel_to (w := w) (by first | exact hb | exact hb.alloc hb.size _ | exact (hb.alloc hb.size _).alloc (Nat.le_trans hb.size (by simp)) _ | exact hb.setCell (by simp [hb.size]) _) hbn; clear hbn)
        go_wp2
        go_ret
        exact ⟨ret_bool (by unfold isTabF; rw [HF.out hok]; rfl), hb⟩
      · go_wp2_with fail
        (refine wp_region_after (by kernel_rfl) (by kernel_rfl) ?_; have q_b0 := fun (x : After _) => cell_keep b0 x.bel; have q_b1 := fun (x : After _) => cell_keep b1 x.bel; have q_hc1 := fun (x : After _) => cell_keep hc1 x.bel; (repeat (go_big_quiet_step ((first | (go_at_call 154; exact Ans.after (Ans.eqb (c_l3Row _ _ _ _ _ (hx _)) hok)))))); clear q_b0; clear q_b1; clear q_hc1; refine wpQuiet_nil ?_; rintro _ ⟨⟨w1, hbn⟩, rfl⟩; (try simp only [After.w]); replace b0 := cell_keep b0 hbn; replace b1 := cell_keep b1 hbn; replace hc1 := cell_keep hc1 hbn; replace hb := bel_to (w := w) (by first | exact hb | exact hb.alloc hb.size _ | exact (hb.alloc hb.size _).alloc (Nat.le_trans hb.size (by simp)) _ | exact hb.setCell (by simp [hb.size]) _) hbn; clear hbn)
        go_wp2
        go_roundw
        case rel => exact ⟨k + 1, by go_num, by omega, by rw [HT.out, HA.out, hok]; rfl, b0, b1, hb⟩
        case measure => simp [intOf]; omega
    · have hkk : k = R.length := by omega
      have HS : Hid (R.all (rowOk n) = true) := by have := HA.out; rw [hkk, List.take_length] at this; exact this
      clear hkk
      cases hin : inB n 1 5
      · go_wp2_with (first | (go_at_call 109; refine Calls.mono (Ans.eqb (c_l1In _ _ _ _) hin) ?_; rintro e w1 ⟨rfl, hbn⟩; replace b1 := cell_keep b1 hbn; replace hb := bel_to (w := w) (by first | exact hb | exact hb.alloc hb.size _ | exact (hb.alloc hb.size _).alloc (Nat.le_trans hb.size (by simp)) _ | exact hb.setCell (by simp [hb.size]) _) hbn; clear hbn))
        go_ret
        exact ⟨ret_bool (by unfold inB at hin; unfold isTabF; rw [HS.out, hin]; rfl), hb⟩
      · go_wp2_with (first | (go_at_call 109; refine Calls.mono (Ans.eqb (c_l1In _ _ _ _) hin) ?_; rintro e w1 ⟨rfl, hbn⟩; replace b1 := cell_keep b1 hbn; replace hb := bel_to (w := w) (by first | exact hb | exact hb.alloc hb.size _ | exact (hb.alloc hb.size _).alloc (Nat.le_trans hb.size (by simp)) _ | exact hb.setCell (by simp [hb.size]) _) hbn; clear hbn))
        go_ret
        exact ⟨ret_bool (by unfold inB at hin; unfold isTabF; rw [HS.out, hin, Bool.true_and, Bool.true_and, decide_eq_decide]; omega), hb⟩
theorem c_l4Fine (n : Int) (oa) (cap : Nat) (R : List (List Int)) (m : Int) (w : World) (hR : RowsAt w oa R) :
    Ans Try.prog 89 #[.agg #[.int .i64 n, .slice oa R.length cap], .int .i64 m] w (.bool (isTabF n R && modeF m)) := by
  unfold Ans
  have hb := (Below.refl w.heap.size w).alloc (Nat.le_refl _) (.cells #[.int .i64 n, .slice oa R.length cap] 26)
  go_enter Try.func89, Try.ntmps89
  cases ht : isTabF n R
  · go_wp2_with (first | (go_at_call 76; refine Calls.mono (Ans.eqb (c_specIsTable _ _ _ _ _ (hR.keep hb)) ht) ?_; rintro e w1 ⟨rfl, hbn⟩; replace hb := bel_to (w := w) (by first | exact hb | exact hb.alloc hb.size _ | exact (hb.alloc hb.size _).alloc (Nat.le_trans hb.size (by simp)) _ | exact hb.setCell (by simp [hb.size]) _) hbn; clear hbn))
    go_ret
    exact ⟨rfl, hb⟩
  · go_wp2_with (first | (go_at_call 76; refine Calls.mono (Ans.eqb (c_specIsTable _ _ _ _ _ (hR.keep hb)) ht) ?_; rintro e w1 ⟨rfl, hbn⟩; replace hb := bel_to (w := w) (by first | exact hb | exact hb.alloc hb.size _ | exact (hb.alloc hb.size _).alloc (Nat.le_trans hb.size (by simp)) _ | exact hb.setCell (by simp [hb.size]) _) hbn; clear hbn) | (go_at_call 159; refine Calls.mono (c_l4Mode _ _) ?_; rintro e w1 ⟨rfl, hbn⟩; replace hb := bel_to (w := w) (by first | exact hb | exact hb.alloc hb.size _ | exact (hb.alloc hb.size _).alloc (Nat.le_trans hb.size (by simp)) _ | exact hb.setCell (by simp [hb.size]) _) hbn; clear hbn))
    go_ret
    exact ⟨rfl, hb⟩
set_option maxHeartbeats 400000 in
theorem c_agree (m : Int) (oa ob) (ca cb : Nat) (A B : List Int) (w : World) (hA : IntsAt w oa A) (hB : IntsAt w ob B) (hl : A.length ≤ 5) (hAB : B.length = A.length) :
    Ans Try.prog 122 #[.int .i64 m, .slice oa A.length ca, .slice ob B.length cb] w (.int .i64 (agreeF m A B)) := by
  unfold Ans
  have HL : Hid (B.length = A.length) := hAB
  have hlb : A.length ≤ B.length := by omega
  clear hAB
  go_enter Try.func122, Try.ntmps122
  go_wp2
  go_loopw [7, 11] (fun x i wr => ∃ k : Nat, i = .int .i64 k ∧ k ≤ A.length ∧ x = .int .i64 ((List.range k).foldl (agreeStep m A B) 0) ∧ Below w.heap.size w wr) (fun _ i _ => A.length - (intOf i).toNat)
  case atStart => exact ⟨0, rfl, Nat.zero_le _, rfl, Below.refl _ _⟩
  case round =>
    obtain ⟨k, rfl, hk, rfl, hb⟩ := hrel
    by_cases hlt : k < A.length
    · obtain ⟨b1, off1, rfl, hbs1, hca⟩ := hA.at_ (by omega)
      obtain ⟨b2, off2, rfl, hbs2, hcb⟩ := hB.at_ (by omega)
      have hc1 := cell_keep (hca k hlt) hb
      have hc2 := cell_keep (hcb k (by omega)) hb
      have HS : Hid ((List.range (k + 1)).foldl (agreeStep m A B) 0 = agreeStep m A B ((List.range k).foldl (agreeStep m A B) 0) k) := range_succ_fold _ _ _
      have HG : Hid (∀ x, agreeStep m A B x k = if eqCellF m (nth A k) (nth B k) then uni x (one k) else x) := fun x => rfl
      clear hca hcb
      generalize (List.range k).foldl (agreeStep m A B) 0 = x at *
      generalize nth A k = a at *
      generalize nth B k = b at *
      cases he : eqCellF m a b
      · go_wp2_with fail
        (refine wp_region_after (by kernel_rfl) (by kernel_rfl) ?_; have q_hc1 := fun (x : After _) => cell_keep hc1 x.bel; have q_hc2 := fun (x : After _) => cell_keep hc2 x.bel; (repeat (go_big_quiet_step ((first | (go_at_call 121; exact Ans.after (Ans.eqb (c_EqualCells _ _ _ _) he)))))); clear q_hc1; clear q_hc2; refine wpQuiet_nil ?_; rintro _ ⟨⟨w1, hbn⟩, rfl⟩; (try simp only [After.w]); replace hc1 := cell_keep hc1 hbn; replace hc2 := cell_keep hc2 hbn; replace hb := bel_to (w := w) (by first | exact hb | exact hb.alloc hb.size _ | exact (hb.alloc hb.size _).alloc (Nat.le_trans hb.size (by simp)) _ | exact hb.setCell (by simp [hb.size]) _) hbn; clear hbn)
        go_wp2
        go_roundw
        case rel => exact ⟨k + 1, by go_num, by omega, by rw [HS.out, HG.out, he]; rfl, hb⟩
        case measure => simp [intOf]; omega
      · go_wp2_with fail
        (refine wp_region_after (by kernel_rfl) (by kernel_rfl) ?_; have q_hc1 := fun (x : After _) => cell_keep hc1 x.bel; have q_hc2 := fun (x : After _) => cell_keep hc2 x.bel; (repeat (go_big_quiet_step ((first | (go_at_call 121; exact Ans.after (Ans.eqb (c_EqualCells _ _ _ _) he)))))); clear q_hc1; clear q_hc2; refine wpQuiet_nil ?_; rintro _ ⟨⟨w1, hbn⟩, rfl⟩; (try simp only [After.w]); replace hc1 := cell_keep hc1 hbn; replace hc2 := cell_keep hc2 hbn; replace hb := bel_to (w := w) (by first | exact hb | exact hb.alloc hb.size _ | exact (hb.alloc hb.size _).alloc (Nat.le_trans hb.size (by simp)) _ | exact hb.setCell (by simp [hb.size]) _) hbn; clear hbn)
        go_wp2
        go_roundw
        case rel => exact ⟨k + 1, by go_num, by omega, by rw [HS.out, HG.out, he]; rfl, hb⟩
        case measure => simp [intOf]; omega
    · have hkk : k = A.length := by omega
      have HK : Hid (k = A.length) := hkk
      clear hkk
      go_wp2
      go_ret
      exact ⟨ret_int (by rw [HK.out]; rfl), hb⟩
set_option maxHeartbeats 800000 in
theorem c_l4Agree (n : Int) (oa) (ca : Nat) (R : List (List Int)) (m : Int) (i j : Nat) (w : World) (hR : RowsAt w oa R) (ht : isTabF n R = true) (hi : i < R.length) (hj : j < R.length) :
    Ans Try.prog 124 #[.agg #[.int .i64 n, .slice oa R.length ca], .int .i64 m, .int .i64 i, .int .i64 j] w (.int .i64 (agreeF m (row R i) (row R j))) := by
  unfold Ans
  obtain ⟨hn1, hn5, hr40, hlen⟩ := isTab_of ht
  have li := hlen i hi
  have lj := hlen j hj
  clear hlen ht
  obtain ⟨b, off, rfl, hbs, hca⟩ := hR.at_ (by omega)
  obtain ⟨o1, c1, h1, r1⟩ := hca i hi
  obtain ⟨o2, c2, h2, r2⟩ := hca j hj
  clear hca hR
  have HN : Hid (n = (row R i).length) := li.symm
  have HF : Hid (agreeF m (row R i) (row R j) = (List.range (row R i).length).foldl (agreeStep m (row R i) (row R j)) 0) := rfl
  have hAB : (row R j).length = (row R i).length := by omega
  generalize row R i = A at *
  generalize row R j = B at *
  have hA5 : A.length ≤ 5 := by omega
  have HL : Hid (B.length = A.length) := hAB
  have hlb : A.length ≤ B.length := by omega
  obtain rfl : n = (A.length : Int) := by omega
  clear hAB li lj HN
  have hb := (Below.refl w.heap.size w).alloc (Nat.le_refl _) (.cells #[.int .i64 A.length, .slice (some ⟨b, off, none⟩) R.length ca] 26)
  have b0 := box_at w #[.int .i64 A.length, .slice (some ⟨b, off, none⟩) R.length ca] 26 0 _ rfl
  have b1 := box_at w #[.int .i64 A.length, .slice (some ⟨b, off, none⟩) R.length ca] 26 1 _ rfl
  go_enter Try.func124, Try.ntmps124
  go_wp2
  go_loopw [9, 10] (fun x i wr => ∃ k : Nat, i = .int .i64 k ∧ k ≤ A.length ∧ x = .int .i64 ((List.range k).foldl (agreeStep m A B) 0) ∧ wr.cell? ⟨w.heap.size, 0, none⟩ = some (.int .i64 A.length) ∧ wr.cell? ⟨w.heap.size, 1, none⟩ = some (.slice (some ⟨b, off, none⟩) R.length ca) ∧ Below w.heap.size w wr) (fun _ i _ => A.length - (intOf i).toNat)
  case atStart => exact ⟨0, rfl, Nat.zero_le _, rfl, b0, b1, hb⟩
  case round =>
    clear b0 b1 hb
    obtain ⟨k, rfl, hk, rfl, b0, b1, hb⟩ := hrel
    have d1 := cell_keep h1 hb
    have d2 := cell_keep h2 hb
    by_cases hlt : k < A.length
    · obtain ⟨b3, off3, rfl, hbs3, hca⟩ := r1.at_ (by omega)
      obtain ⟨b4, off4, rfl, hbs4, hcb⟩ := r2.at_ (by omega)
      have hc1 := cell_keep (hca k hlt) hb
      have hc2 := cell_keep (hcb k (by omega)) hb
      have HS : Hid ((List.range (k + 1)).foldl (agreeStep m A B) 0 = agreeStep m A B ((List.range k).foldl (agreeStep m A B) 0) k) := range_succ_fold _ _ _
      have HG : Hid (∀ x, agreeStep m A B x k = if eqCellF m (nth A k) (nth B k) then uni x (one k) else x) := fun x => rfl
      clear hca hcb
      generalize (List.range k).foldl (agreeStep m A B) 0 = x at *
      generalize nth A k = a at *
      generalize nth B k = b' at *
      cases he : eqCellF m a b'
      · go_wp2_with fail
        (refine wp_region_after (by kernel_rfl) (by kernel_rfl) ?_; have q_b0 := fun (x : After _) => cell_keep b0 x.bel; have q_b1 := fun (x : After _) => cell_keep b1 x.bel; have q_d1 := fun (x : After _) => cell_keep d1 x.bel; have q_d2 := fun (x : After _) => cell_keep d2 x.bel; have q_hc1 := fun (x : After _) => cell_keep hc1 x.bel; have q_hc2 := fun (x : After _) => cell_keep hc2 x.bel; (repeat (go_big_quiet_step ((first | (go_at_call 175; exact Ans.after (Ans.eqb (c_specEqualCells _ _ _ _) he)))))); clear q_b0; clear q_b1; clear q_d1; clear q_d2; clear q_hc1; clear q_hc2; refine wpQuiet_nil ?_; rintro _ ⟨⟨w1, hbn⟩, rfl⟩; (try simp only [After.w]); replace b0 := cell_keep b0 hbn; replace b1 := cell_keep b1 hbn; replace d1 := cell_keep d1 hbn; replace d2 := cell_keep d2 hbn; replace hc1 := cell_keep hc1 hbn; replace hc2 := cell_keep hc2 hbn; replace hb := bel_to (w := w) (by first | exact hb | exact hb.alloc hb.size _ | exact (hb.alloc hb.size _).alloc (Nat.le_trans hb.size (by simp)) _ | exact hb.setCell (by simp [hb.size]) _) hbn; clear hbn)
        go_wp2
        go_roundw
        case rel => exact ⟨k + 1, by go_num, by omega, by rw [HS.out, HG.out, he]; rfl, b0, b1, hb⟩
        case measure => simp [intOf]; omega
      · go_wp2_with fail
        (refine wp_region_after (by kernel_rfl) (by kernel_rfl) ?_; have q_b0 := fun (x : After _) => cell_keep b0 x.bel; have q_b1 := fun (x : After _) => cell_keep b1 x.bel; have q_d1 := fun (x : After _) => cell_keep d1 x.bel; have q_d2 := fun (x : After _) => cell_keep d2 x.bel; have q_hc1 := fun (x : After _) => cell_keep hc1 x.bel; have q_hc2 := fun (x : After _) => cell_keep hc2 x.bel; (repeat (go_big_quiet_step ((first | (go_at_call 175; exact Ans.after (Ans.eqb (c_specEqualCells _ _ _ _) he)))))); clear q_b0; clear q_b1; clear q_d1; clear q_d2; clear q_hc1; clear q_hc2; refine wpQuiet_nil ?_; rintro _ ⟨⟨w1, hbn⟩, rfl⟩; (try simp only [After.w]); replace b0 := cell_keep b0 hbn; replace b1 := cell_keep b1 hbn; replace d1 := cell_keep d1 hbn; replace d2 := cell_keep d2 hbn; replace hc1 := cell_keep hc1 hbn; replace hc2 := cell_keep hc2 hbn; replace hb := bel_to (w := w) (by first | exact hb | exact hb.alloc hb.size _ | exact (hb.alloc hb.size _).alloc (Nat.le_trans hb.size (by simp)) _ | exact hb.setCell (by simp [hb.size]) _) hbn; clear hbn)
        go_wp2
        go_roundw
        case rel => exact ⟨k + 1, by go_num, by omega, by rw [HS.out, HG.out, he]; rfl, b0, b1, hb⟩
        case measure => simp [intOf]; omega
    · have hkk : k = A.length := by omega
      have HK : Hid (k = A.length) := hkk
      clear hkk
      go_wp2
      go_ret
      exact ⟨ret_int (by rw [HF.out, HK.out]), hb⟩
end Go.Proofs.Ytjbmpnbfiahdhaa
namespace Go.Proofs.Ytjbmpnbfiahdhaa
open Go.RowKit
set_option linter.unusedVariables false
set_option maxRecDepth 100000

theorem two_a (w : World) (c1 : Array Value) (T1 : TypeId) (c2 : Array Value) (T2 : TypeId) (j : Nat) (v : Value) (h : c1[j]? = some v) : ((w.alloc (.cells c1 T1)).alloc (.cells c2 T2)).cell? ⟨w.heap.size, j, none⟩ = some v :=
  cell_keep (box_at w c1 T1 j v h) ((Below.refl _ _).alloc (Nat.le_refl _) _)
theorem two_b (w : World) (c1 : Array Value) (T1 : TypeId) (c2 : Array Value) (T2 : TypeId) (j : Nat) (v : Value) (h : c2[j]? = some v) : ((w.alloc (.cells c1 T1)).alloc (.cells c2 T2)).cell? ⟨w.heap.size + 1, j, none⟩ = some v := by
  have := box_at (w.alloc (.cells c1 T1)) c2 T2 j v h
  simpa using this
theorem bel2 (w : World) (o1 o2 : Obj) : Below w.heap.size w ((w.alloc o1).alloc o2) := ((Below.refl w.heap.size w).alloc (Nat.le_refl _) o1).alloc (by simp) o2

def askF (n : Int) (R : List (List Int)) (m l r : Int) : Bool := (isTabF n R && modeF m) && isDepF n l r
def violF (R : List (List Int)) (m l r : Int) (i k : Nat) : Bool := ins l (agreeF m (row R i) (row R k)) && !hasc (agreeF m (row R i) (row R k)) r
def holdsF (R : List (List Int)) (m l r : Int) : Bool := decide (∀ i, i < R.length → ∀ k, k < R.length → i < k → violF R m l r i k = false)
theorem holdsF_no {R : List (List Int)} {m l r : Int} {i k : Nat} (hik : i < k) (hk : k < R.length) (h : violF R m l r i k = true) : holdsF R m l r = false := by
  unfold holdsF
  rw [decide_eq_false_iff_not]
  intro H
  have := H i (by omega) k hk hik
  rw [h] at this
  cases this
theorem dep_of {n l r : Int} (h : isDepF n l r = true) (h5 : n ≤ 5) : St l ∧ Co r := by
  unfold isDepF at h
  simp only [Bool.and_eq_true, decide_eq_true_eq] at h
  obtain ⟨⟨⟨h1, h2⟩, h3⟩, h4⟩ := h
  unfold isAttr at h2
  simp only [Bool.and_eq_true, decide_eq_true_eq] at h2
  have hp := (pow_wrap (n := n) (by omega) h5).2.1
  exact ⟨⟨h2.1.2, by omega⟩, ⟨h3, by omega⟩⟩
theorem agreeStep_st {m : Int} {A B : List Int} {x : Int} {c : Nat} (hx : St x) (hc : c < 5) : St (agreeStep m A B x c) := by
  unfold agreeStep
  split
  · exact uni_st hx (one_st ⟨by omega, by omega⟩)
  · exact hx
theorem agreeF_st {m : Int} {A B : List Int} (h : A.length ≤ 5) : St (agreeF m A B) := by
  have : ∀ k, k ≤ 5 → St ((List.range k).foldl (agreeStep m A B) 0) := by
    intro k
    induction k with
    | zero => intro _; exact ⟨by simp, by simp⟩
    | succ k ih => intro hk; rw [range_succ_fold]; exact agreeStep_st (ih (by omega)) (by omega)
  exact this _ h

theorem c_asked (n : Int) (oa) (cap : Nat) (R : List (List Int)) (m l r : Int) (w : World) (hR : RowsAt w oa R) :
    Ans Try.prog 119 #[.agg #[.int .i64 n, .slice oa R.length cap], .int .i64 m, .agg #[.int .i64 l, .int .i64 r]] w (.bool (askF n R m l r)) := by
  unfold Ans askF
  have hb := bel2 w (.cells #[.int .i64 n, .slice oa R.length cap] 26) (.cells #[.int .i64 l, .int .i64 r] 55)
  have a0 := two_a w #[.int .i64 n, .slice oa R.length cap] 26 #[.int .i64 l, .int .i64 r] 55 0 _ rfl
  have d0 := two_b w #[.int .i64 n, .slice oa R.length cap] 26 #[.int .i64 l, .int .i64 r] 55 0 _ rfl
  have d1 := two_b w #[.int .i64 n, .slice oa R.length cap] 26 #[.int .i64 l, .int .i64 r] 55 1 _ rfl
  go_enter Try.func119, Try.ntmps119
  cases ht : isTabF n R
  · go_wp2_with (first | (go_at_call 67; refine Calls.mono (Ans.eqb (c_IsTable _ _ _ _ _ (hR.keep hb)) ht) ?_; rintro e w1 ⟨rfl, hbn⟩; replace a0 := cell_keep a0 hbn; replace d0 := cell_keep d0 hbn; replace d1 := cell_keep d1 hbn; replace hb := bel_to (w := w) (by first | exact hb | exact hb.alloc hb.size _ | exact (hb.alloc hb.size _).alloc (Nat.le_trans hb.size (by simp)) _ | exact hb.setCell (by simp [hb.size]) _) hbn; clear hbn))
    go_ret
    exact ⟨rfl, hb⟩
  · cases hm : modeF m
    · go_wp2_with (first | (go_at_call 67; refine Calls.mono (Ans.eqb (c_IsTable _ _ _ _ _ (hR.keep hb)) ht) ?_; rintro e w1 ⟨rfl, hbn⟩; replace a0 := cell_keep a0 hbn; replace d0 := cell_keep d0 hbn; replace d1 := cell_keep d1 hbn; replace hb := bel_to (w := w) (by first | exact hb | exact hb.alloc hb.size _ | exact (hb.alloc hb.size _).alloc (Nat.le_trans hb.size (by simp)) _ | exact hb.setCell (by simp [hb.size]) _) hbn; clear hbn) | (go_at_call 92; refine Calls.mono (Ans.eqb (c_isMode _ _) hm) ?_; rintro e w1 ⟨rfl, hbn⟩; replace a0 := cell_keep a0 hbn; replace d0 := cell_keep d0 hbn; replace d1 := cell_keep d1 hbn; replace hb := bel_to (w := w) (by first | exact hb | exact hb.alloc hb.size _ | exact (hb.alloc hb.size _).alloc (Nat.le_trans hb.size (by simp)) _ | exact hb.setCell (by simp [hb.size]) _) hbn; clear hbn))
      go_ret
      exact ⟨rfl, hb⟩
    · go_wp2_with (first | (go_at_call 67; refine Calls.mono (Ans.eqb (c_IsTable _ _ _ _ _ (hR.keep hb)) ht) ?_; rintro e w1 ⟨rfl, hbn⟩; replace a0 := cell_keep a0 hbn; replace d0 := cell_keep d0 hbn; replace d1 := cell_keep d1 hbn; replace hb := bel_to (w := w) (by first | exact hb | exact hb.alloc hb.size _ | exact (hb.alloc hb.size _).alloc (Nat.le_trans hb.size (by simp)) _ | exact hb.setCell (by simp [hb.size]) _) hbn; clear hbn) | (go_at_call 92; refine Calls.mono (Ans.eqb (c_isMode _ _) hm) ?_; rintro e w1 ⟨rfl, hbn⟩; replace a0 := cell_keep a0 hbn; replace d0 := cell_keep d0 hbn; replace d1 := cell_keep d1 hbn; replace hb := bel_to (w := w) (by first | exact hb | exact hb.alloc hb.size _ | exact (hb.alloc hb.size _).alloc (Nat.le_trans hb.size (by simp)) _ | exact hb.setCell (by simp [hb.size]) _) hbn; clear hbn) | (go_at_call 59; refine Calls.mono (c_isDep _ _ _ _) ?_; rintro e w1 ⟨rfl, hbn⟩; replace a0 := cell_keep a0 hbn; replace d0 := cell_keep d0 hbn; replace d1 := cell_keep d1 hbn; replace hb := bel_to (w := w) (by first | exact hb | exact hb.alloc hb.size _ | exact (hb.alloc hb.size _).alloc (Nat.le_trans hb.size (by simp)) _ | exact hb.setCell (by simp [hb.size]) _) hbn; clear hbn))
      go_ret
      exact ⟨rfl, hb⟩

set_option maxHeartbeats 1600000 in
theorem c_WitnessOf (n : Int) (oa) (cap : Nat) (R : List (List Int)) (m l r : Int) (w : World) (hR : RowsAt w oa R) :
    Calls Try.prog 54 #[.agg #[.int .i64 n, .slice oa R.length cap], .int .i64 m, .agg #[.int .i64 l, .int .i64 r]] w fun e w' => (∃ x y : Int, e = .returned (.tuple #[.int .i64 x, .int .i64 y, .bool (askF n R m l r && !holdsF R m l r)])) ∧ Below w.heap.size w w' := by
  have hb := bel2 w (.cells #[.int .i64 n, .slice oa R.length cap] 26) (.cells #[.int .i64 l, .int .i64 r] 55)
  have a0 := two_a w #[.int .i64 n, .slice oa R.length cap] 26 #[.int .i64 l, .int .i64 r] 55 0 _ rfl
  have a1 := two_a w #[.int .i64 n, .slice oa R.length cap] 26 #[.int .i64 l, .int .i64 r] 55 1 _ rfl
  have d0 := two_b w #[.int .i64 n, .slice oa R.length cap] 26 #[.int .i64 l, .int .i64 r] 55 0 _ rfl
  have d1 := two_b w #[.int .i64 n, .slice oa R.length cap] 26 #[.int .i64 l, .int .i64 r] 55 1 _ rfl
  cases hask : askF n R m l r
  · go_enter Try.func54, Try.ntmps54
    go_wp2_with (first | (go_at_call 119; refine Calls.mono (Ans.eqb (c_asked _ _ _ _ _ _ _ _ (hR.keep hb)) hask) ?_; rintro e w1 ⟨rfl, hbn⟩; replace a0 := cell_keep a0 hbn; replace a1 := cell_keep a1 hbn; replace d0 := cell_keep d0 hbn; replace d1 := cell_keep d1 hbn; replace hb := bel_to (w := w) (by first | exact hb | exact hb.alloc hb.size _ | exact (hb.alloc hb.size _).alloc (Nat.le_trans hb.size (by simp)) _ | exact hb.setCell (by simp [hb.size]) _) hbn; clear hbn))
    go_ret3
    exact ⟨⟨_, _, rfl⟩, hb⟩
  · have hk := hask
    unfold askF at hk
    simp only [Bool.and_eq_true] at hk
    obtain ⟨⟨ht, hm⟩, hd⟩ := hk
    obtain ⟨hn1, hn5, hr40, hlen⟩ := isTab_of ht
    obtain ⟨hsl, hcr⟩ := dep_of hd hn5
    have hcr64 : 0 ≤ r ∧ r < 64 := ⟨hcr.1, by have := hcr.2; omega⟩
    have HL : Hid (∀ k, k < R.length → ((row R k).length : Int) = n) := hlen
    have HH : Hid ((∀ i, i < R.length → ∀ k, k < R.length → i < k → violF R m l r i k = false) → holdsF R m l r = true) := fun h => decide_eq_true h
    have HN : Hid (∀ i k, i < k → k < R.length → violF R m l r i k = true → holdsF R m l r = false) := fun i k h1 h2 h3 => holdsF_no h1 h2 h3
    clear hm ht hlen hcr hd
    go_enter Try.func54, Try.ntmps54
    go_wp2_with (first | (go_at_call 119; refine Calls.mono (Ans.eqb (c_asked _ _ _ _ _ _ _ _ (hR.keep hb)) hask) ?_; rintro e w1 ⟨rfl, hbn⟩; replace a0 := cell_keep a0 hbn; replace a1 := cell_keep a1 hbn; replace d0 := cell_keep d0 hbn; replace d1 := cell_keep d1 hbn; replace hb := bel_to (w := w) (by first | exact hb | exact hb.alloc hb.size _ | exact (hb.alloc hb.size _).alloc (Nat.le_trans hb.size (by simp)) _ | exact hb.setCell (by simp [hb.size]) _) hbn; clear hbn))
    go_loopw [21] (fun i wr => ∃ k : Nat, i = .int .i64 k ∧ k ≤ R.length ∧ (∀ i, i < k → ∀ k, k < R.length → i < k → violF R m l r i k = false) ∧ wr.cell? ⟨w.heap.size, 1, none⟩ = some (.slice oa R.length cap) ∧ wr.cell? ⟨w.heap.size + 1, 0, none⟩ = some (.int .i64 l) ∧ wr.cell? ⟨w.heap.size + 1, 1, none⟩ = some (.int .i64 r) ∧ Below w.heap.size w wr) (fun i _ => R.length - (intOf i).toNat)
    case atStart => exact ⟨0, rfl, Nat.zero_le _, fun i hi => absurd hi (by omega), a1, d0, d1, hb⟩
    case round =>
      clear a0 a1 d0 d1 hb
      obtain ⟨i, rfl, hi, hall, a1, d0, d1, hb⟩ := hrel
      have HA : Hid (∀ i', i' < i → ∀ k, k < R.length → i' < k → violF R m l r i' k = false) := hall
      clear hall
      by_cases hlt : i < R.length
      · obtain ⟨b, off, rfl, hbs, hca⟩ := hR.at_ (by omega)
        obtain ⟨o1, c1, e1, r1⟩ := hca i hlt
        have hc1 := cell_keep e1 hb
        have HC : Hid (∀ k, k < R.length → ∃ o c, w.cell? ⟨b, off + k, none⟩ = some (.slice o (row R k).length c) ∧ IntsAt w o (row R k)) := hca
        clear hca e1
        go_wp2
        go_loopw [11] (fun i' wr => ∃ k : Nat, i' = .int .i64 k ∧ i < k ∧ k ≤ R.length ∧ (∀ k', k' < k → i < k' → violF R m l r i k' = false) ∧ wr.cell? ⟨w.heap.size, 1, none⟩ = some (.slice (some ⟨b, off, none⟩) R.length cap) ∧ wr.cell? ⟨w.heap.size + 1, 0, none⟩ = some (.int .i64 l) ∧ wr.cell? ⟨w.heap.size + 1, 1, none⟩ = some (.int .i64 r) ∧ Below w.heap.size w wr) (fun i _ => R.length - (intOf i).toNat)
        case atStart => exact ⟨i + 1, by go_num, by omega, by omega, fun k' h1 h2 => absurd h1 (by omega), a1, d0, d1, hb⟩
        case round =>
          clear a1 d0 d1 hb hc1
          obtain ⟨k, rfl, hik, hk, hall, a1, d0, d1, hb⟩ := hrel
          have HI : Hid (∀ k', k' < k → i < k' → violF R m l r i k' = false) := hall
          clear hall
          by_cases hlk : k < R.length
          · obtain ⟨o2, c2, e2, r2⟩ := HC.out k hlk
            have hc2 := cell_keep e2 hb
            have hA5 : (row R i).length ≤ 5 := by have := HL.out i hlt; omega
            have hAB : Hid ((row R k).length = (row R i).length) := by have h1 := HL.out i hlt; have h2 := HL.out k hlk; show (row R k).length = (row R i).length; omega
            have HV : Hid (violF R m l r i k = (ins l (agreeF m (row R i) (row R k)) && !hasc (agreeF m (row R i) (row R k)) r)) := rfl
            clear e2
            go_wp2_with fail
            refine Calls.mono (c_agree m _ _ _ _ _ _ _ (r1.keep hb) (r2.keep hb) hA5 hAB.out) ?_
            rintro e w1 ⟨rfl, hbn⟩
            replace a1 := cell_keep a1 hbn
            replace d0 := cell_keep d0 hbn
            replace d1 := cell_keep d1 hbn
            replace hb := bel_to hb hbn
            clear hbn hc2 hAB hA5
            generalize agreeF m (row R i) (row R k) = x at *
            cases h1 : ins l x
            · go_wp2_with (first | (go_at_call 106; refine Calls.mono (Ans.eqb (c_inside _ _ _) h1) ?_; rintro e w1 ⟨rfl, hbn⟩; replace a1 := cell_keep a1 hbn; replace d0 := cell_keep d0 hbn; replace d1 := cell_keep d1 hbn; replace hb := bel_to (w := w) (by first | exact hb | exact hb.alloc hb.size _ | exact (hb.alloc hb.size _).alloc (Nat.le_trans hb.size (by simp)) _ | exact hb.setCell (by simp [hb.size]) _) hbn; clear hbn))
              go_roundw
              case rel => exact ⟨k + 1, by go_num, by omega, by omega, lt_step (p := fun k' => i < k' → violF R m l r i k' = false) HI.out (fun _ => by rw [HV.out, h1]; rfl), a1, d0, d1, hb⟩
              case measure => simp [intOf]; omega
            · cases h2 : hasc x r
              · go_wp2_with (first | (go_at_call 106; refine Calls.mono (Ans.eqb (c_inside _ _ _) h1) ?_; rintro e w1 ⟨rfl, hbn⟩; replace a1 := cell_keep a1 hbn; replace d0 := cell_keep d0 hbn; replace d1 := cell_keep d1 hbn; replace hb := bel_to (w := w) (by first | exact hb | exact hb.alloc hb.size _ | exact (hb.alloc hb.size _).alloc (Nat.le_trans hb.size (by simp)) _ | exact hb.setCell (by simp [hb.size]) _) hbn; clear hbn) | (go_at_call 105; refine Calls.mono (Ans.eqb (c_has _ _ hcr64 _) h2) ?_; rintro e w1 ⟨rfl, hbn⟩; replace a1 := cell_keep a1 hbn; replace d0 := cell_keep d0 hbn; replace d1 := cell_keep d1 hbn; replace hb := bel_to (w := w) (by first | exact hb | exact hb.alloc hb.size _ | exact (hb.alloc hb.size _).alloc (Nat.le_trans hb.size (by simp)) _ | exact hb.setCell (by simp [hb.size]) _) hbn; clear hbn))
                go_ret3
                exact ⟨⟨_, _, by rw [HN.out i k hik hlk (by rw [HV.out, h1, h2]; rfl)]; rfl⟩, hb⟩
              · go_wp2_with (first | (go_at_call 106; refine Calls.mono (Ans.eqb (c_inside _ _ _) h1) ?_; rintro e w1 ⟨rfl, hbn⟩; replace a1 := cell_keep a1 hbn; replace d0 := cell_keep d0 hbn; replace d1 := cell_keep d1 hbn; replace hb := bel_to (w := w) (by first | exact hb | exact hb.alloc hb.size _ | exact (hb.alloc hb.size _).alloc (Nat.le_trans hb.size (by simp)) _ | exact hb.setCell (by simp [hb.size]) _) hbn; clear hbn) | (go_at_call 105; refine Calls.mono (Ans.eqb (c_has _ _ hcr64 _) h2) ?_; rintro e w1 ⟨rfl, hbn⟩; replace a1 := cell_keep a1 hbn; replace d0 := cell_keep d0 hbn; replace d1 := cell_keep d1 hbn; replace hb := bel_to (w := w) (by first | exact hb | exact hb.alloc hb.size _ | exact (hb.alloc hb.size _).alloc (Nat.le_trans hb.size (by simp)) _ | exact hb.setCell (by simp [hb.size]) _) hbn; clear hbn))
                go_roundw
                case rel => exact ⟨k + 1, by go_num, by omega, by omega, lt_step (p := fun k' => i < k' → violF R m l r i k' = false) HI.out (fun _ => by rw [HV.out, h1, h2]; rfl), a1, d0, d1, hb⟩
                case measure => simp [intOf]; omega
          · have HI2 : Hid (∀ k', k' < R.length → i < k' → violF R m l r i k' = false) := fun k' h1 h2 => HI.out k' (by omega) h2
            go_wp2
            go_roundw
            case rel => exact ⟨i + 1, by go_num, by omega, lt_step (p := fun i => ∀ k, k < R.length → i < k → violF R m l r i k = false) HA.out HI2.out, a1, d0, d1, hb⟩
            case measure => simp [intOf]; omega
      · have HE : Hid (holdsF R m l r = true) := HH.out fun i' h1 => HA.out i' (by omega)
        go_wp2
        go_ret3
        exact ⟨⟨_, _, by rw [HE.out]; rfl⟩, hb⟩
theorem c_HoldsDep (n : Int) (oa) (cap : Nat) (R : List (List Int)) (m l r : Int) (w : World) (hR : RowsAt w oa R) :
    Ans Try.prog 52 #[.agg #[.int .i64 n, .slice oa R.length cap], .int .i64 m, .agg #[.int .i64 l, .int .i64 r]] w (.bool (askF n R m l r && holdsF R m l r)) := by
  unfold Ans
  have hb := bel2 w (.cells #[.int .i64 n, .slice oa R.length cap] 26) (.cells #[.int .i64 l, .int .i64 r] 55)
  have a0 := two_a w #[.int .i64 n, .slice oa R.length cap] 26 #[.int .i64 l, .int .i64 r] 55 0 _ rfl
  have a1 := two_a w #[.int .i64 n, .slice oa R.length cap] 26 #[.int .i64 l, .int .i64 r] 55 1 _ rfl
  have d0 := two_b w #[.int .i64 n, .slice oa R.length cap] 26 #[.int .i64 l, .int .i64 r] 55 0 _ rfl
  have d1 := two_b w #[.int .i64 n, .slice oa R.length cap] 26 #[.int .i64 l, .int .i64 r] 55 1 _ rfl
  have hW := c_WitnessOf n oa cap R m l r _ (hR.keep hb)
  have HK := fun (w' : World) (h : RowsAt w' oa R) => c_asked n oa cap R m l r w' h
  cases hask : askF n R m l r <;> cases hh : holdsF R m l r <;> rw [hask, hh] at hW <;> (
    go_enter Try.func52, Try.ntmps52
    go_wp2_with fail
    refine hW.mono ?_
    rintro e w1 ⟨⟨x, y, rfl⟩, hbn⟩
    replace a0 := cell_keep a0 hbn
    replace a1 := cell_keep a1 hbn
    replace d0 := cell_keep d0 hbn
    replace d1 := cell_keep d1 hbn
    replace hb := bel_to hb hbn
    clear hbn
    go_wp2_with (first | (go_at_call 119; refine Calls.mono (Ans.eqb (HK _ (hR.keep hb)) hask) ?_; rintro e w1 ⟨rfl, hbn⟩; replace a0 := cell_keep a0 hbn; replace a1 := cell_keep a1 hbn; replace d0 := cell_keep d0 hbn; replace d1 := cell_keep d1 hbn; replace hb := bel_to (w := w) (by first | exact hb | exact hb.alloc hb.size _ | exact (hb.alloc hb.size _).alloc (Nat.le_trans hb.size (by simp)) _ | exact hb.setCell (by simp [hb.size]) _) hbn; clear hbn))
    go_ret
    exact ⟨rfl, hb⟩)
end Go.Proofs.Ytjbmpnbfiahdhaa
namespace Go.Proofs.Ytjbmpnbfiahdhaa
open Go.RowKit
set_option linter.unusedVariables false
set_option maxRecDepth 100000

theorem room_of {n : Nat} (h : (n : Int) ≤ 1048576) : n ≤ Room := by unfold Room; omega
theorem c_toDep (l r : Int) (w : World) : Ans Try.prog 81 #[.agg #[.int .i64 l, .int .i64 r]] w (.agg #[.int .i64 l, .int .i64 r]) := by
  unfold Ans
  go_enter Try.func81, Try.ntmps81
  go_wp2
  exact bodyPost_ret (v := .agg #[.int .i64 l, .int .i64 r]) (by simp [results, Try.results81, go_sem]) rfl ⟨rfl, (((Below.refl _ _).alloc (Nat.le_refl _) _).alloc (by simp) _).alloc (by simp; omega) _⟩
def depEqB (a b c d : Int) : Bool := decide (a = c ∧ b = d)
theorem c_eqDep (a b c d : Int) (w : World) : Ans Try.prog 85 #[.agg #[.int .i64 a, .int .i64 b], .agg #[.int .i64 c, .int .i64 d]] w (.bool (depEqB a b c d)) := by
  unfold Ans
  have hB : Below w.heap.size w ((w.alloc (.cells #[.int .i64 a, .int .i64 b] 55)).alloc (.cells #[.int .i64 c, .int .i64 d] 55)) := ((Below.refl _ _).alloc (Nat.le_refl _) _).alloc (by simp) _
  by_cases h1 : a = c
  · have e1 : (a != c) = false := by simp [h1]
    by_cases h2 : b = d
    · have e2 : (b != d) = false := by simp [h2]
      have HV : Hid (depEqB a b c d = true) := by simp [depEqB, h1, h2, Hid]
      clear h1 h2
      go_enter Try.func85, Try.ntmps85
      go_wp2
      go_ret
      exact ⟨ret_bool HV.out.symm, hB⟩
    · have e2 : (b != d) = true := by simp [h2]
      have HV : Hid (depEqB a b c d = false) := by simp [depEqB, h2, Hid]
      clear h1 h2
      go_enter Try.func85, Try.ntmps85
      go_wp2
      go_ret
      exact ⟨ret_bool HV.out.symm, hB⟩
  · have e1 : (a != c) = true := by simp [h1]
    have HV : Hid (depEqB a b c d = false) := by simp [depEqB, h1, Hid]
    clear h1
    go_enter Try.func85, Try.ntmps85
    go_wp2
    go_ret
    exact ⟨ret_bool HV.out.symm, hB⟩

theorem dlist_ext {L M : List (Int × Int)} (hl : L.length = M.length) (h : ∀ k, k < L.length → nl L k = nl M k ∧ nr L k = nr M k) : L = M := by
  apply List.ext_getElem?
  intro k
  by_cases hk : k < L.length
  · rw [dnth_eq hk, dnth_eq (by omega), (h k hk).1, (h k hk).2]
  · rw [List.getElem?_eq_none (by omega), List.getElem?_eq_none (by omega)]

theorem c_eqDepS (oa ob) (ca cb : Nat) (L M : List (Int × Int)) (w : World) (hL : DepsAt w oa L) (hM : DepsAt w ob M) :
    Ans Try.prog 15 #[.slice oa L.length ca, .slice ob M.length cb] w (.bool (decide (L = M))) := by
  unfold Ans
  have hn : L.length ≤ 1073741824 := hL.len
  by_cases hlen : L.length = M.length
  · have hb0 : ((L.length : Int) != (M.length : Int)) = false := by simp [hlen]
    have HL : Hid (L.length = M.length) := hlen
    have hlm : L.length ≤ M.length := by omega
    clear hlen
    go_enter Try.func15, Try.ntmps15
    go_wp2
    go_loopw [5] (fun i wr => ∃ k : Nat, i = .int .i64 k ∧ k ≤ L.length ∧ (∀ j, j < k → nl L j = nl M j ∧ nr L j = nr M j) ∧ Below w.heap.size w wr) (fun i _ => L.length - (intOf i).toNat)
    case atStart => exact ⟨0, rfl, Nat.zero_le _, fun j hj => absurd hj (by omega), Below.refl _ _⟩
    case round =>
      obtain ⟨k, rfl, hk, hall, hb⟩ := hrel
      have HA : Hid (∀ j, j < k → nl L j = nl M j ∧ nr L j = nr M j) := hall
      clear hall
      by_cases hlt : k < L.length
      · obtain ⟨b, off, rfl, hbs, hc⟩ := hL.at_ (by omega)
        obtain ⟨b', off', rfl, hbs', hc'⟩ := hM.at_ (by omega)
        have hc1 := cell_keep (hc k hlt).1 hb
        have hc2 := cell_keep (hc k hlt).2 hb
        have hc3 := cell_keep (hc' k (by omega)).1 hb
        have hc4 := cell_keep (hc' k (by omega)).2 hb
        clear hc hc'
        cases he : depEqB (nl L k) (nr L k) (nl M k) (nr M k)
        · go_wp2_with fail
          (refine wp_region_after (by kernel_rfl) (by kernel_rfl) ?_; have q_hc1 := fun (x : After _) => cell_keep hc1 x.bel; have q_hc2 := fun (x : After _) => cell_keep hc2 x.bel; have q_hc3 := fun (x : After _) => cell_keep hc3 x.bel; have q_hc4 := fun (x : After _) => cell_keep hc4 x.bel; (repeat (go_big_quiet_step ((first | (go_at_call 85; exact Ans.after (Ans.eqb (c_eqDep _ _ _ _ _) he)))))); clear q_hc1; clear q_hc2; clear q_hc3; clear q_hc4; refine wpQuiet_nil ?_; rintro _ ⟨⟨w1, hbn⟩, rfl⟩; (try simp only [After.w]); replace hc1 := cell_keep hc1 hbn; replace hc2 := cell_keep hc2 hbn; replace hc3 := cell_keep hc3 hbn; replace hc4 := cell_keep hc4 hbn; replace hb := bel_to (w := w) (by first | exact hb | exact hb.alloc hb.size _ | exact (hb.alloc hb.size _).alloc (Nat.le_trans hb.size (by simp)) _ | exact hb.setCell (by simp [hb.size]) _) hbn; clear hbn)
          go_wp2
          go_ret
          exact ⟨ret_bool (by symm; rw [decide_eq_false_iff_not]; intro e; subst e; simp [depEqB] at he), hb⟩
        · have HE0 : nl L k = nl M k ∧ nr L k = nr M k := by simpa [depEqB] using he
          have HE : Hid (nl L k = nl M k ∧ nr L k = nr M k) := HE0
          clear HE0
          go_wp2_with fail
          (refine wp_region_after (by kernel_rfl) (by kernel_rfl) ?_; have q_hc1 := fun (x : After _) => cell_keep hc1 x.bel; have q_hc2 := fun (x : After _) => cell_keep hc2 x.bel; have q_hc3 := fun (x : After _) => cell_keep hc3 x.bel; have q_hc4 := fun (x : After _) => cell_keep hc4 x.bel; (repeat (go_big_quiet_step ((first | (go_at_call 85; exact Ans.after (Ans.eqb (c_eqDep _ _ _ _ _) he)))))); clear q_hc1; clear q_hc2; clear q_hc3; clear q_hc4; refine wpQuiet_nil ?_; rintro _ ⟨⟨w1, hbn⟩, rfl⟩; (try simp only [After.w]); replace hc1 := cell_keep hc1 hbn; replace hc2 := cell_keep hc2 hbn; replace hc3 := cell_keep hc3 hbn; replace hc4 := cell_keep hc4 hbn; replace hb := bel_to (w := w) (by first | exact hb | exact hb.alloc hb.size _ | exact (hb.alloc hb.size _).alloc (Nat.le_trans hb.size (by simp)) _ | exact hb.setCell (by simp [hb.size]) _) hbn; clear hbn)
          go_wp2
          go_roundw
          case rel => exact ⟨k + 1, by go_num, by omega, lt_step (p := fun j => nl L j = nl M j ∧ nr L j = nr M j) HA.out HE.out, hb⟩
          case measure => simp [intOf]; omega
      · have hkk : k = L.length := by omega
        have HE : Hid (L = M) := dlist_ext HL.out fun j hj => HA.out j (by omega)
        clear hkk
        go_wp2
        go_ret
        exact ⟨ret_bool (by symm; rw [decide_eq_true_iff]; exact HE.out), hb⟩
  · have hb0 : ((L.length : Int) != (M.length : Int)) = true := by simp; omega
    go_enter Try.func15, Try.ntmps15
    go_wp2
    go_ret
    exact ⟨ret_bool (by symm; rw [decide_eq_false_iff_not]; intro e; exact hlen (by rw [e])), Below.refl _ _⟩

theorem c_toDepS (oa) (ca : Nat) (D : List (Int × Int)) (w : World) (hD : DepsAt w oa D) :
    Calls Try.prog 12 #[.slice oa D.length ca] w fun e w' => ∃ v, e = .returned v ∧ OwnD w' w.heap.size v D ∧ Below w.heap.size w w' := by
  have hn : D.length ≤ 1073741824 := hD.len
  obtain ⟨i0, hi, hz0, hz1, hz2⟩ := info_parts info_dep
  go_enter Try.func12, Try.ntmps12
  go_wp2_with (first | (at_make; refine wpList_make_full _ rfl _ _ 29 rfl w.heap.size 55 i0 (.agg #[.int .i64 0, .int .i64 0]) 2 Try.underlying29 hi hz0 hz1 .i64 .i64 _ _ D.length rfl rfl rfl rfl (by rw [hz2]; omega) (by unfold maxLen; omega) (Nat.le_refl _) ?_; intro w1 hown hgrow))
  rw [madeD] at hown
  have hI : OwnD w1 w.heap.size (.slice (some ⟨w.heap.size, 0, none⟩) D.length D.length) (List.replicate D.length (0, 0)) := by unfold OwnD; rw [List.length_replicate]; exact hown
  have hb1 : Below w.heap.size w w1 := below_grown hgrow (Nat.le_refl _) (by simp)
  clear hown hgrow hi hz0 hz1 hz2 i0
  go_loopw [4] (fun i wr => ∃ (k : Nat) (M : List (Int × Int)), i = .int .i64 k ∧ k ≤ D.length ∧ M.length = D.length ∧ (∀ j, j < k → nl M j = nl D j ∧ nr M j = nr D j) ∧
      OwnD wr w.heap.size (.slice (some ⟨w.heap.size, 0, none⟩) D.length D.length) M ∧ Below w.heap.size w wr) (fun i _ => D.length - (intOf i).toNat)
  case atStart => exact ⟨0, _, rfl, Nat.zero_le _, by simp, fun j hj => absurd hj (by omega), hI, hb1⟩
  case round =>
    clear hI hb1
    obtain ⟨k, M, rfl, hk, hM, hall, hI, hb⟩ := hrel
    have HM : Hid (M.length = D.length) := hM
    have HA : Hid (∀ j, j < k → nl M j = nl D j ∧ nr M j = nr D j) := hall
    clear hall hM
    by_cases hlt : k < D.length
    · obtain ⟨b, off, rfl, hbs, hc⟩ := hD.at_ (by omega)
      have hc1 := cell_keep (hc k hlt).1 hb
      have hc2 := cell_keep (hc k hlt).2 hb
      clear hc
      go_wp2_with fail
      refine Calls.mono (c_toDep _ _ _) ?_
      rintro e w1 ⟨rfl, hbn⟩
      replace hI := hI.keep hbn
      replace hb := bel_to (w := w) hb hbn
      obtain ⟨hg1, hg2, hg3, hg4⟩ := hI.cell HM.out.symm k hlt
      have HI2 := (show Hid _ from hI.store HM.out.symm k (nl D k) (nr D k))
      clear hc1 hc2 hbn
      go_wp2
      go_roundw
      case rel =>
        refine ⟨k + 1, M.set k (nl D k, nr D k), by go_num, by omega, by rw [List.length_set]; exact HM.out, ?_, HI2.out, (hb.setCell (Nat.le_refl _) _).setCell (Nat.le_refl _) _⟩
        intro j hj
        rw [nl_set (by have := HM.out; omega), nr_set (by have := HM.out; omega)]
        by_cases h : j = k
        · subst h; simp
        · simp only [if_neg h]; exact HA.out j (by omega)
      case measure => simp [intOf]; omega
    · have hkk : k = D.length := by omega
      have HK : Hid (k = D.length) := hkk
      clear hkk
      go_wp2
      go_ret
      have : M = D := dlist_ext HM.out fun j hj => HA.out j (by have := HM.out; have := HK.out; omega)
      subst this
      exact ⟨_, rfl, hI, hb⟩

/-- A slice of dependencies that came in. -/
def InDeps (w : World) (v : Value) : Prop := ∃ a len cap, v = .slice a len cap ∧ len ≤ maxLen ∧ (len ≤ Room → ∃ D : List (Int × Int), D.length = len ∧ DepsAt w a D)

theorem c_szDepS_ok (oa) (n cap : Nat) (left : Int) (h0 : left ≤ 1048576) (h : (n : Int) ≤ left) (w : World) :
    Ans Try.prog 10 #[.slice oa n cap, .int .i64 left] w (.int .i64 (left - n)) := by
  unfold Ans
  go_enter Try.func10, Try.ntmps10
  go_wp2
  go_ret
  exact ⟨rfl, Below.refl _ _⟩
theorem c_szDepS_no (oa) (n cap : Nat) (left : Int) (h0 : 0 ≤ left ∧ left ≤ 1048576) (h : left < (n : Int)) (hn : n ≤ maxLen) (w : World) :
    Ans Try.prog 10 #[.slice oa n cap, .int .i64 left] w (.int .i64 (-1)) := by
  unfold Ans
  unfold maxLen at hn
  go_enter Try.func10, Try.ntmps10
  go_wp2
  go_ret
  exact ⟨rfl, Below.refl _ _⟩
end Go.Proofs.Ytjbmpnbfiahdhaa
namespace Go.Proofs.Ytjbmpnbfiahdhaa
open Go.RowKit
set_option linter.unusedVariables false
set_option maxRecDepth 100000

theorem rows_ext' {A B : List (List Int)} (hl : A.length = B.length) (h : ∀ k, k < A.length → row A k = row B k) : A = B := by
  apply List.ext_getElem hl
  intro j h1 h2
  have := h j h1
  simp [row, List.getD, h1, h2] at this
  exact this

set_option maxHeartbeats 800000 in
theorem c_SameDeps (oa ob) (ca cb : Nat) (L M : List (Int × Int)) (w : World) (hL : DepsAt w oa L) (hM : DepsAt w ob M) :
    Ans Try.prog 166 #[.slice oa L.length ca, .slice ob M.length cb] w (.bool (decide (L = M))) := by
  unfold Ans
  have hn : L.length ≤ 1073741824 := hL.len
  by_cases hlen : L.length = M.length
  · have hb0 : ((L.length : Int) != (M.length : Int)) = false := by simp [hlen]
    have HL : Hid (L.length = M.length) := hlen
    have hlm : L.length ≤ M.length := by omega
    clear hlen
    go_enter Try.func166, Try.ntmps166
    go_wp2
    go_loopw [13] (fun i wr => ∃ k : Nat, i = .int .i64 k ∧ k ≤ L.length ∧ (∀ j, j < k → nl L j = nl M j ∧ nr L j = nr M j) ∧ Below w.heap.size w wr) (fun i _ => L.length - (intOf i).toNat)
    case atStart => exact ⟨0, rfl, Nat.zero_le _, fun j hj => absurd hj (by omega), Below.refl _ _⟩
    case round =>
      obtain ⟨k, rfl, hk, hall, hb⟩ := hrel
      have HA : Hid (∀ j, j < k → nl L j = nl M j ∧ nr L j = nr M j) := hall
      clear hall
      by_cases hlt : k < L.length
      · obtain ⟨b, off, rfl, hbs, hc⟩ := hL.at_ (by omega)
        obtain ⟨b', off', rfl, hbs', hc'⟩ := hM.at_ (by omega)
        have hc1 := cell_keep (hc k hlt).1 hb
        have hc2 := cell_keep (hc k hlt).2 hb
        have hc3 := cell_keep (hc' k (by omega)).1 hb
        have hc4 := cell_keep (hc' k (by omega)).2 hb
        have HN : Hid (L = M → nl L k = nl M k ∧ nr L k = nr M k) := fun e => by subst e; exact ⟨rfl, rfl⟩
        clear hc hc'
        generalize gh1 : nl L k = a at *
        generalize gh2 : nr L k = b at *
        generalize gh3 : nl M k = c at *
        generalize gh4 : nr M k = d at *
        have HG : Hid (nl L k = a ∧ nr L k = b ∧ nl M k = c ∧ nr M k = d) := ⟨gh1, gh2, gh3, gh4⟩
        clear gh1 gh2 gh3 gh4
        cases e1 : (a == c)
        · go_wp2_with fail
          (refine wp_region_after (by kernel_rfl) (by kernel_rfl) ?_; have q_hc1 := fun (x : After _) => cell_keep hc1 x.bel; have q_hc2 := fun (x : After _) => cell_keep hc2 x.bel; have q_hc3 := fun (x : After _) => cell_keep hc3 x.bel; have q_hc4 := fun (x : After _) => cell_keep hc4 x.bel; (repeat (go_big_quiet_step (fail))); clear q_hc1; clear q_hc2; clear q_hc3; clear q_hc4; refine wpQuiet_nil ?_; rintro _ ⟨⟨w1, hbn⟩, rfl⟩; (try simp only [After.w]); replace hc1 := cell_keep hc1 hbn; replace hc2 := cell_keep hc2 hbn; replace hc3 := cell_keep hc3 hbn; replace hc4 := cell_keep hc4 hbn; replace hb := bel_to (w := w) (by first | exact hb | exact hb.alloc hb.size _ | exact (hb.alloc hb.size _).alloc (Nat.le_trans hb.size (by simp)) _ | exact hb.setCell (by simp [hb.size]) _) hbn; clear hbn)
          go_wp2
          go_ret
          exact ⟨ret_bool (by symm; rw [decide_eq_false_iff_not]; intro e; have := (HN.out e).1; simp at e1; exact e1 this), hb⟩
        · cases e2 : (b == d)
          · go_wp2_with fail
            (refine wp_region_after (by kernel_rfl) (by kernel_rfl) ?_; have q_hc1 := fun (x : After _) => cell_keep hc1 x.bel; have q_hc2 := fun (x : After _) => cell_keep hc2 x.bel; have q_hc3 := fun (x : After _) => cell_keep hc3 x.bel; have q_hc4 := fun (x : After _) => cell_keep hc4 x.bel; (repeat (go_big_quiet_step (fail))); clear q_hc1; clear q_hc2; clear q_hc3; clear q_hc4; refine wpQuiet_nil ?_; rintro _ ⟨⟨w1, hbn⟩, rfl⟩; (try simp only [After.w]); replace hc1 := cell_keep hc1 hbn; replace hc2 := cell_keep hc2 hbn; replace hc3 := cell_keep hc3 hbn; replace hc4 := cell_keep hc4 hbn; replace hb := bel_to (w := w) (by first | exact hb | exact hb.alloc hb.size _ | exact (hb.alloc hb.size _).alloc (Nat.le_trans hb.size (by simp)) _ | exact hb.setCell (by simp [hb.size]) _) hbn; clear hbn)
            go_wp2
            go_ret
            exact ⟨ret_bool (by symm; rw [decide_eq_false_iff_not]; intro e; have := (HN.out e).2; simp at e2; exact e2 this), hb⟩
          · have HE : Hid (a = c ∧ b = d) := by show a = c ∧ b = d; simp at e1 e2; exact ⟨e1, e2⟩
            go_wp2_with fail
            (refine wp_region_after (by kernel_rfl) (by kernel_rfl) ?_; have q_hc1 := fun (x : After _) => cell_keep hc1 x.bel; have q_hc2 := fun (x : After _) => cell_keep hc2 x.bel; have q_hc3 := fun (x : After _) => cell_keep hc3 x.bel; have q_hc4 := fun (x : After _) => cell_keep hc4 x.bel; (repeat (go_big_quiet_step (fail))); clear q_hc1; clear q_hc2; clear q_hc3; clear q_hc4; refine wpQuiet_nil ?_; rintro _ ⟨⟨w1, hbn⟩, rfl⟩; (try simp only [After.w]); replace hc1 := cell_keep hc1 hbn; replace hc2 := cell_keep hc2 hbn; replace hc3 := cell_keep hc3 hbn; replace hc4 := cell_keep hc4 hbn; replace hb := bel_to (w := w) (by first | exact hb | exact hb.alloc hb.size _ | exact (hb.alloc hb.size _).alloc (Nat.le_trans hb.size (by simp)) _ | exact hb.setCell (by simp [hb.size]) _) hbn; clear hbn)
            go_wp2
            go_roundw
            case rel => exact ⟨k + 1, by go_num, by omega, lt_step (p := fun j => nl L j = nl M j ∧ nr L j = nr M j) HA.out (by obtain ⟨g1, g2, g3, g4⟩ := HG.out; rw [g1, g2, g3, g4]; exact HE.out), hb⟩
            case measure => simp [intOf]; omega
      · have hkk : k = L.length := by omega
        have HE : Hid (L = M) := dlist_ext HL.out fun j hj => HA.out j (by omega)
        clear hkk
        go_wp2
        go_ret
        exact ⟨ret_bool (by symm; rw [decide_eq_true_iff]; exact HE.out), hb⟩
  · have hb0 : ((L.length : Int) != (M.length : Int)) = true := by simp; omega
    go_enter Try.func166, Try.ntmps166
    go_wp2
    go_ret
    exact ⟨ret_bool (by symm; rw [decide_eq_false_iff_not]; intro e; exact hlen (by rw [e])), Below.refl _ _⟩

set_option maxHeartbeats 800000 in
theorem c_specSameDeps (oa ob) (ca cb : Nat) (L M : List (Int × Int)) (w : World) (hL : DepsAt w oa L) (hM : DepsAt w ob M) :
    Ans Try.prog 69 #[.slice oa L.length ca, .slice ob M.length cb] w (.bool (decide (L = M))) := by
  unfold Ans
  have hn : L.length ≤ 1073741824 := hL.len
  by_cases hlen : L.length = M.length
  · have hb0 : ((L.length : Int) != (M.length : Int)) = false := by simp [hlen]
    have HL : Hid (L.length = M.length) := hlen
    have hlm : L.length ≤ M.length := by omega
    clear hlen
    go_enter Try.func69, Try.ntmps69
    go_wp2
    go_loopw [5] (fun i wr => ∃ k : Nat, i = .int .i64 k ∧ k ≤ L.length ∧ (∀ j, j < k → nl L j = nl M j ∧ nr L j = nr M j) ∧ Below w.heap.size w wr) (fun i _ => L.length - (intOf i).toNat)
    case atStart => exact ⟨0, rfl, Nat.zero_le _, fun j hj => absurd hj (by omega), Below.refl _ _⟩
    case round =>
      obtain ⟨k, rfl, hk, hall, hb⟩ := hrel
      have HA : Hid (∀ j, j < k → nl L j = nl M j ∧ nr L j = nr M j) := hall
      clear hall
      by_cases hlt : k < L.length
      · obtain ⟨b, off, rfl, hbs, hc⟩ := hL.at_ (by omega)
        obtain ⟨b', off', rfl, hbs', hc'⟩ := hM.at_ (by omega)
        have hc1 := cell_keep (hc k hlt).1 hb
        have hc2 := cell_keep (hc k hlt).2 hb
        have hc3 := cell_keep (hc' k (by omega)).1 hb
        have hc4 := cell_keep (hc' k (by omega)).2 hb
        have HN : Hid (L = M → nl L k = nl M k ∧ nr L k = nr M k) := fun e => by subst e; exact ⟨rfl, rfl⟩
        clear hc hc'
        generalize gh1 : nl L k = a at *
        generalize gh2 : nr L k = b at *
        generalize gh3 : nl M k = c at *
        generalize gh4 : nr M k = d at *
        have HG : Hid (nl L k = a ∧ nr L k = b ∧ nl M k = c ∧ nr M k = d) := ⟨gh1, gh2, gh3, gh4⟩
        clear gh1 gh2 gh3 gh4
        cases e1 : (a == c)
        · go_wp2_with fail
          (refine wp_region_after (by kernel_rfl) (by kernel_rfl) ?_; have q_hc1 := fun (x : After _) => cell_keep hc1 x.bel; have q_hc2 := fun (x : After _) => cell_keep hc2 x.bel; have q_hc3 := fun (x : After _) => cell_keep hc3 x.bel; have q_hc4 := fun (x : After _) => cell_keep hc4 x.bel; (repeat (go_big_quiet_step (fail))); clear q_hc1; clear q_hc2; clear q_hc3; clear q_hc4; refine wpQuiet_nil ?_; rintro _ ⟨⟨w1, hbn⟩, rfl⟩; (try simp only [After.w]); replace hc1 := cell_keep hc1 hbn; replace hc2 := cell_keep hc2 hbn; replace hc3 := cell_keep hc3 hbn; replace hc4 := cell_keep hc4 hbn; replace hb := bel_to (w := w) (by first | exact hb | exact hb.alloc hb.size _ | exact (hb.alloc hb.size _).alloc (Nat.le_trans hb.size (by simp)) _ | exact hb.setCell (by simp [hb.size]) _) hbn; clear hbn)
          go_wp2
          go_ret
          exact ⟨ret_bool (by symm; rw [decide_eq_false_iff_not]; intro e; have := (HN.out e).1; simp at e1; exact e1 this), hb⟩
        · cases e2 : (b == d)
          · go_wp2_with fail
            (refine wp_region_after (by kernel_rfl) (by kernel_rfl) ?_; have q_hc1 := fun (x : After _) => cell_keep hc1 x.bel; have q_hc2 := fun (x : After _) => cell_keep hc2 x.bel; have q_hc3 := fun (x : After _) => cell_keep hc3 x.bel; have q_hc4 := fun (x : After _) => cell_keep hc4 x.bel; (repeat (go_big_quiet_step (fail))); clear q_hc1; clear q_hc2; clear q_hc3; clear q_hc4; refine wpQuiet_nil ?_; rintro _ ⟨⟨w1, hbn⟩, rfl⟩; (try simp only [After.w]); replace hc1 := cell_keep hc1 hbn; replace hc2 := cell_keep hc2 hbn; replace hc3 := cell_keep hc3 hbn; replace hc4 := cell_keep hc4 hbn; replace hb := bel_to (w := w) (by first | exact hb | exact hb.alloc hb.size _ | exact (hb.alloc hb.size _).alloc (Nat.le_trans hb.size (by simp)) _ | exact hb.setCell (by simp [hb.size]) _) hbn; clear hbn)
            go_wp2
            go_ret
            exact ⟨ret_bool (by symm; rw [decide_eq_false_iff_not]; intro e; have := (HN.out e).2; simp at e2; exact e2 this), hb⟩
          · have HE : Hid (a = c ∧ b = d) := by show a = c ∧ b = d; simp at e1 e2; exact ⟨e1, e2⟩
            go_wp2_with fail
            (refine wp_region_after (by kernel_rfl) (by kernel_rfl) ?_; have q_hc1 := fun (x : After _) => cell_keep hc1 x.bel; have q_hc2 := fun (x : After _) => cell_keep hc2 x.bel; have q_hc3 := fun (x : After _) => cell_keep hc3 x.bel; have q_hc4 := fun (x : After _) => cell_keep hc4 x.bel; (repeat (go_big_quiet_step (fail))); clear q_hc1; clear q_hc2; clear q_hc3; clear q_hc4; refine wpQuiet_nil ?_; rintro _ ⟨⟨w1, hbn⟩, rfl⟩; (try simp only [After.w]); replace hc1 := cell_keep hc1 hbn; replace hc2 := cell_keep hc2 hbn; replace hc3 := cell_keep hc3 hbn; replace hc4 := cell_keep hc4 hbn; replace hb := bel_to (w := w) (by first | exact hb | exact hb.alloc hb.size _ | exact (hb.alloc hb.size _).alloc (Nat.le_trans hb.size (by simp)) _ | exact hb.setCell (by simp [hb.size]) _) hbn; clear hbn)
            go_wp2
            go_roundw
            case rel => exact ⟨k + 1, by go_num, by omega, lt_step (p := fun j => nl L j = nl M j ∧ nr L j = nr M j) HA.out (by obtain ⟨g1, g2, g3, g4⟩ := HG.out; rw [g1, g2, g3, g4]; exact HE.out), hb⟩
            case measure => simp [intOf]; omega
      · have hkk : k = L.length := by omega
        have HE : Hid (L = M) := dlist_ext HL.out fun j hj => HA.out j (by omega)
        clear hkk
        go_wp2
        go_ret
        exact ⟨ret_bool (by symm; rw [decide_eq_true_iff]; exact HE.out), hb⟩
  · have hb0 : ((L.length : Int) != (M.length : Int)) = true := by simp; omega
    go_enter Try.func69, Try.ntmps69
    go_wp2
    go_ret
    exact ⟨ret_bool (by symm; rw [decide_eq_false_iff_not]; intro e; exact hlen (by rw [e])), Below.refl _ _⟩

def eqTabF (n k : Int) (A B : List (List Int)) : Bool := (n == k) && decide (A = B)
set_option maxHeartbeats 800000 in
theorem c_specEqualTables (n k : Int) (oa ob) (ca cb : Nat) (A B : List (List Int)) (w : World) (hA : RowsAt w oa A) (hB : RowsAt w ob B) :
    Ans Try.prog 64 #[.agg #[.int .i64 n, .slice oa A.length ca], .agg #[.int .i64 k, .slice ob B.length cb]] w (.bool (eqTabF n k A B)) := by
  unfold Ans
  have hn : A.length ≤ 1073741824 := hA.len
  have hb := bel2 w (.cells #[.int .i64 n, .slice oa A.length ca] 26) (.cells #[.int .i64 k, .slice ob B.length cb] 26)
  have a0 := two_a w #[.int .i64 n, .slice oa A.length ca] 26 #[.int .i64 k, .slice ob B.length cb] 26 0 _ rfl
  have a1 := two_a w #[.int .i64 n, .slice oa A.length ca] 26 #[.int .i64 k, .slice ob B.length cb] 26 1 _ rfl
  have b0 := two_b w #[.int .i64 n, .slice oa A.length ca] 26 #[.int .i64 k, .slice ob B.length cb] 26 0 _ rfl
  have b1 := two_b w #[.int .i64 n, .slice oa A.length ca] 26 #[.int .i64 k, .slice ob B.length cb] 26 1 _ rfl
  cases h : (n == k)
  · have h' : (n != k) = true := by simp at h ⊢; exact h
    have HM : Hid (eqTabF n k A B = false) := by show eqTabF n k A B = false; unfold eqTabF; rw [h]; rfl
    go_enter Try.func64, Try.ntmps64
    go_wp2
    go_ret
    exact ⟨ret_bool HM.out.symm, hb⟩
  have h' : (n != k) = false := by simp at h ⊢; exact h
  have HM : Hid (eqTabF n k A B = decide (A = B)) := by show eqTabF n k A B = _; unfold eqTabF; rw [h]; rfl
  by_cases hlen : A.length = B.length
  · have hb0 : ((A.length : Int) != (B.length : Int)) = false := by simp [hlen]
    have HL : Hid (A.length = B.length) := hlen
    have hlm : A.length ≤ B.length := by omega
    clear hlen
    go_enter Try.func64, Try.ntmps64
    go_wp2
    go_loopw [5] (fun i wr => ∃ k' : Nat, i = .int .i64 k' ∧ k' ≤ A.length ∧ (∀ j, j < k' → row A j = row B j) ∧ wr.cell? ⟨w.heap.size, 1, none⟩ = some (.slice oa A.length ca) ∧ wr.cell? ⟨w.heap.size + 1, 1, none⟩ = some (.slice ob B.length cb) ∧ Below w.heap.size w wr) (fun i _ => A.length - (intOf i).toNat)
    case atStart => exact ⟨0, rfl, Nat.zero_le _, fun j hj => absurd hj (by omega), a1, b1, hb⟩
    case round =>
      clear a0 a1 b0 b1 hb
      obtain ⟨k', rfl, hk, hall, a1, b1, hb⟩ := hrel
      have HA : Hid (∀ j, j < k' → row A j = row B j) := hall
      clear hall
      by_cases hlt : k' < A.length
      · obtain ⟨b, off, rfl, hbs, hc⟩ := hA.at_ (by omega)
        obtain ⟨b', off', rfl, hbs', hc'⟩ := hB.at_ (by omega)
        obtain ⟨o1, c1, h1, r1⟩ := hc k' hlt
        obtain ⟨o2, c2, h2, r2⟩ := hc' k' (by omega)
        have hc1 := cell_keep h1 hb
        have hc2 := cell_keep h2 hb
        have hx1 := fun (x : After wr) => (r1.keep hb).keep x.bel
        have hx2 := fun (x : After wr) => (r2.keep hb).keep x.bel
        have HN : Hid (A = B → row A k' = row B k') := fun e => by rw [e]
        clear hc hc' h1 h2
        cases he : decide (row A k' = row B k')
        · go_wp2_with fail
          (refine wp_region_after (by kernel_rfl) (by kernel_rfl) ?_; have q_a1 := fun (x : After _) => cell_keep a1 x.bel; have q_b1 := fun (x : After _) => cell_keep b1 x.bel; have q_hc1 := fun (x : After _) => cell_keep hc1 x.bel; have q_hc2 := fun (x : After _) => cell_keep hc2 x.bel; (repeat (go_big_quiet_step ((first | (go_at_call 139; exact Ans.after (Ans.eqb (c_l2Ints _ _ _ _ _ _ _ (hx1 _) (hx2 _)) he)))))); clear q_a1; clear q_b1; clear q_hc1; clear q_hc2; refine wpQuiet_nil ?_; rintro _ ⟨⟨w1, hbn⟩, rfl⟩; (try simp only [After.w]); replace a1 := cell_keep a1 hbn; replace b1 := cell_keep b1 hbn; replace hc1 := cell_keep hc1 hbn; replace hc2 := cell_keep hc2 hbn; replace hb := bel_to (w := w) (by first | exact hb | exact hb.alloc hb.size _ | exact (hb.alloc hb.size _).alloc (Nat.le_trans hb.size (by simp)) _ | exact hb.setCell (by simp [hb.size]) _) hbn; clear hbn)
          go_wp2
          go_ret
          exact ⟨ret_bool (by rw [HM.out]; symm; rw [decide_eq_false_iff_not]; intro e; exact (of_decide_eq_false he) (HN.out e)), hb⟩
        · have HE : Hid (row A k' = row B k') := (show row A k' = row B k' from of_decide_eq_true he)
          go_wp2_with fail
          (refine wp_region_after (by kernel_rfl) (by kernel_rfl) ?_; have q_a1 := fun (x : After _) => cell_keep a1 x.bel; have q_b1 := fun (x : After _) => cell_keep b1 x.bel; have q_hc1 := fun (x : After _) => cell_keep hc1 x.bel; have q_hc2 := fun (x : After _) => cell_keep hc2 x.bel; (repeat (go_big_quiet_step ((first | (go_at_call 139; exact Ans.after (Ans.eqb (c_l2Ints _ _ _ _ _ _ _ (hx1 _) (hx2 _)) he)))))); clear q_a1; clear q_b1; clear q_hc1; clear q_hc2; refine wpQuiet_nil ?_; rintro _ ⟨⟨w1, hbn⟩, rfl⟩; (try simp only [After.w]); replace a1 := cell_keep a1 hbn; replace b1 := cell_keep b1 hbn; replace hc1 := cell_keep hc1 hbn; replace hc2 := cell_keep hc2 hbn; replace hb := bel_to (w := w) (by first | exact hb | exact hb.alloc hb.size _ | exact (hb.alloc hb.size _).alloc (Nat.le_trans hb.size (by simp)) _ | exact hb.setCell (by simp [hb.size]) _) hbn; clear hbn)
          go_wp2
          go_roundw
          case rel => exact ⟨k' + 1, by go_num, by omega, lt_step (p := fun j => row A j = row B j) HA.out HE.out, a1, b1, hb⟩
          case measure => simp [intOf]; omega
      · have HE : Hid (A = B) := rows_ext' HL.out fun j hj => HA.out j (by omega)
        go_wp2
        go_ret
        exact ⟨ret_bool (by rw [HM.out]; symm; rw [decide_eq_true_iff]; exact HE.out), hb⟩
  · have hb0 : ((A.length : Int) != (B.length : Int)) = true := by simp; omega
    go_enter Try.func64, Try.ntmps64
    go_wp2
    go_ret
    exact ⟨ret_bool (by rw [HM.out]; symm; rw [decide_eq_false_iff_not]; intro e; exact hlen (by rw [e])), hb⟩
end Go.Proofs.Ytjbmpnbfiahdhaa
namespace Go.Proofs.Ytjbmpnbfiahdhaa
open Go.RowKit
set_option linter.unusedVariables false
set_option maxRecDepth 100000

structure Sr where
  n : Int
  R : List (List Int)
  m : Int
  a : Int
  F : List (Int × Int)
  t : Int
def eqSrF (A B : Sr) : Bool := (((eqTabF A.n B.n A.R B.R && (A.m == B.m)) && (A.a == B.a)) && decide (A.F = B.F)) && (A.t == B.t)
end Go.Proofs.Ytjbmpnbfiahdhaa
namespace Go.Proofs.Ytjbmpnbfiahdhaa
open Go.ChangeShapes Go.WideShapes Go.ChangeAt Go.RowKit
set_option linter.unusedVariables false
set_option maxRecDepth 100000

theorem open_ints {H : Type} {enc : TypeId × Value → H} {W : World} {base : Nat} {held : Bool} {v : Value} {d : DataW H} {ps : List MemPlace} (hok : Value.okWide Try.prog W .any base 68 v)
    (h : DataW.Trod enc Try.prog W 0 (fun _ => true) held 68 v d ps) : InInts W v := by
  obtain ⟨a0, len0, cap0, rfl⟩ := okWide_slice Try.underlying68 hok
  obtain ⟨fuel, hf⟩ := h
  rcases Go.ChangeShapes.open_ints Try.underlying68 Try.underlying3 (by kernel_rfl) hf with ⟨hcs, _⟩ | ⟨x, l, c, zs, hcs, _, hl, hm, hz, _, hcell, hwz⟩
  · simp [Value.cells] at hcs
    obtain ⟨rfl, rfl, rfl⟩ := hcs
    exact ⟨_, _, _, [], rfl, .inl ⟨rfl, rfl, rfl, rfl⟩⟩
  · simp [Value.cells] at hcs
    obtain ⟨rfl, rfl, rfl⟩ := hcs
    exact ⟨_, _, _, zs, rfl, .inr ⟨_, rfl, hl, hm, by simpa using hz, hcell, hwz⟩⟩
end Go.Proofs.Ytjbmpnbfiahdhaa
namespace Go.Proofs.Ytjbmpnbfiahdhaa
open Go.ChangeShapes Go.WideShapes Go.ChangeAt Go.RowKit Go.Joins
set_option linter.unusedVariables false
set_option maxRecDepth 100000

theorem add_at (b off j : Nat) : (⟨b, off, none⟩ : Addr).add j = ⟨b, off + j, none⟩ := by unfold Addr.add; split <;> simp_all

theorem open_deps {H : Type} {enc : TypeId × Value → H} {W : World} {base : Nat} {held : Bool} {v : Value} {d : DataW H} {ps : List MemPlace} (hok : Value.okWide Try.prog W .any base 22 v)
    (h : DataW.Trod enc Try.prog W 0 (fun _ => true) held 22 v d ps) : InDeps W v := by
  obtain ⟨a0, len0, cap0, rfl⟩ := okWide_slice Try.underlying22 hok
  obtain ⟨fuel, hf⟩ := h
  rcases Go.Deep.open_slice_pairs Try.underlying22 Try.underlying104 (by kernel_rfl) rfl rfl (by kernel_rfl) (by kernel_rfl) hf with ⟨hcs, _⟩ | ⟨x, l, c, m, n, V0, V1, D0, D1, P0, P1, hcs, _, hl, hm, hmm, _, hcell⟩
  · simp [Value.cells] at hcs
    obtain ⟨rfl, rfl, rfl⟩ := hcs
    exact ⟨_, _, _, rfl, Nat.zero_le _, fun _ => ⟨[], rfl, by simp, fun h => absurd h (by simp)⟩⟩
  · simp [Value.cells] at hcs
    obtain ⟨rfl, rfl, rfl⟩ := hcs
    simp only [if_true] at hmm
    subst hmm
    refine ⟨_, _, _, rfl, Nat.le_trans hl hm, fun hr => ?_⟩
    have each : ∀ i, i < len0 → ∃ q : Int × Int, V0 i = .int .i64 q.1 ∧ V1 i = .int .i64 q.2 := by
      intro i hi
      obtain ⟨_, _, t0, t1⟩ := hcell i (by omega)
      obtain ⟨z0, e0, _⟩ := DataW.trod_int Try.underlying3 t0
      obtain ⟨z1, e1, _⟩ := DataW.trod_int Try.underlying3 t1
      simp at e0 e1
      exact ⟨(z0, z1), e0, e1⟩
    obtain ⟨q, hq⟩ := Go.Deep.choose_lt each
    refine ⟨(List.range len0).map q, by simp, by simpa using hr, fun h0 => ?_⟩
    simp only [List.length_map, List.length_range] at h0
    obtain ⟨b, off, spot⟩ := x
    have hc := (hcell 0 (by omega)).1
    have hspot : spot = none := by simpa [Addr.add] using World.cell?_spot hc
    subst hspot
    refine ⟨b, off, rfl, World.block_lt_of_cell? W ⟨b, off, none⟩ (by simpa [Addr.add] using hc), fun k hk => ?_⟩
    simp only [List.length_map, List.length_range] at hk
    obtain ⟨c0, c1, _⟩ := hcell k (by omega)
    rw [add_at] at c0 c1
    obtain ⟨e0, e1⟩ := hq k hk
    rw [e0] at c0
    rw [e1] at c1
    rw [Nat.add_assoc, c0, c1]
    have e : ((List.range len0).map q).getD k (0, 0) = q k := by simp [List.getD, hk]
    unfold nl nr
    rw [e]; exact ⟨rfl, rfl⟩

theorem open_dep {H : Type} {enc : TypeId × Value → H} {W : World} {base : Nat} {held : Bool} {v : Value} {d : DataW H} {ps : List MemPlace} (hok : Value.okWide Try.prog W .any base 104 v)
    (h : DataW.Trod enc Try.prog W 0 (fun _ => true) held 104 v d ps) : ∃ l r : Int, v = .agg #[.int .i64 l, .int .i64 r] ∧ (Lit.int .i64 l).wf = true ∧ (Lit.int .i64 r).wf = true := by
  obtain ⟨c0, c1, y0, y1, m, rfl, rfl, rfl, hy0, hy1⟩ := open_agg2 Try.underlying104 (by kernel_rfl) (by kernel_rfl) hok h
  obtain ⟨z0, e0, _, w0⟩ := DataW.trod_int Try.underlying3 hy0
  obtain ⟨z1, e1, _, w1⟩ := DataW.trod_int Try.underlying3 hy1
  simp at e0 e1
  subst e0 e1
  exact ⟨_, _, rfl, w0, w1⟩
end Go.Proofs.Ytjbmpnbfiahdhaa
namespace Go.Proofs.Ytjbmpnbfiahdhaa
open Go.ChangeShapes Go.WideShapes Go.ChangeAt Go.RowKit Go.Joins
set_option linter.unusedVariables false
set_option maxRecDepth 100000

def InTab (w : World) (v : Value) : Prop := ∃ (n : Int) (oa : Option Addr) (l c : Nat) (Ln : Nat → Nat), v = .agg #[.int .i64 n, .slice oa l c] ∧ RowsIn w oa l Ln
theorem open_table {H : Type} {enc : TypeId × Value → H} {W : World} {base : Nat} {held : Bool} {v : Value} {d : DataW H} {ps : List MemPlace} (hok : Value.okWide Try.prog W .any base 36 v)
    (h : DataW.Trod enc Try.prog W 0 (fun _ => true) held 36 v d ps) : InTab W v := by
  obtain ⟨c0, c1, y0, y1, m, rfl, rfl, rfl, hy0, hy1⟩ := open_agg2 Try.underlying36 (by kernel_rfl) (by kernel_rfl) hok h
  obtain ⟨z0, e0, _, w0⟩ := DataW.trod_int Try.underlying3 hy0
  simp at e0
  subst e0
  rcases Go.Deep.open_int_rows Try.underlying24 Try.underlying68 Try.underlying3 (by kernel_rfl) (by kernel_rfl) hy1 with ⟨hcs, _⟩ | ⟨a, len, cap, A, L, C, Z, hcs, _, hl, hm, _, hr⟩
  · simp at hcs
    subst hcs
    exact ⟨_, _, _, _, fun _ => 0, rfl, Nat.zero_le _, fun h => absurd h (by simp)⟩
  · simp at hcs
    subst hcs
    refine ⟨_, _, _, _, L, rfl, Nat.le_trans hl hm, fun h0 => ?_⟩
    obtain ⟨b, off, spot⟩ := a
    have hc := (hr 0 (by omega)).1
    have hspot : spot = none := by simpa [Addr.add] using World.cell?_spot hc
    subst hspot
    refine ⟨b, off, rfl, World.block_lt_of_cell? W ⟨b, off, none⟩ (by simpa [Addr.add] using hc), fun r hrl => ?_⟩
    obtain ⟨h1, h2, h3, h4, h5, h6, h7⟩ := hr r (by omega)
    rw [add_at] at h1
    refine ⟨Nat.le_trans h2 h3, A r, C r, h1, fun hroom => ?_⟩
    refine IsRow.ints (cap := C r) (zs := Z r) ?_ hroom
    cases hA : A r with
    | none =>
      have hz : C r = 0 := h6 hA
      refine .inl ⟨rfl, by omega, hz, List.eq_nil_of_length_eq_zero (by omega)⟩
    | some a' =>
      obtain ⟨_, hcell⟩ := h7 a' hA
      exact .inr ⟨a', rfl, h2, h3, h4, fun i hi => hcell i (by omega), h5⟩
theorem RowsIn.keep {w w' : World} {oa : Option Addr} {l : Nat} {Ln : Nat → Nat} (h : RowsIn w oa l Ln) (hk : Below w.heap.size w w') : RowsIn w' oa l Ln :=
  ⟨h.len, fun h0 => by
    obtain ⟨b, off, e, hlt, hr⟩ := h.rows h0
    exact ⟨b, off, e, Nat.lt_of_lt_of_le hlt hk.size, fun r hrl => by
      obtain ⟨m, o, c, h1, h2⟩ := hr r hrl
      exact ⟨m, o, c, cell_keep h1 hk, fun hq => by
        obtain ⟨L, e1, e2⟩ := h2 hq
        exact ⟨L, e1, e2.keep hk⟩⟩⟩⟩
end Go.Proofs.Ytjbmpnbfiahdhaa
namespace Go.Proofs.Ytjbmpnbfiahdhaa
open Go.ChangeShapes Go.WideShapes Go.ChangeAt Go.RowKit Go.Joins
set_option linter.unusedVariables false
set_option maxRecDepth 100000

theorem deps_of_trod {H : Type} {enc : TypeId × Value → H} {W : World} {held : Bool} {fuel : Nat} {v : Value} {x : DataW H × List MemPlace} (hf : DataW.trod enc Try.prog W 0 (fun _ => true) held fuel 22 [v] = some x) : InDeps W v := by
  rcases Go.Deep.open_slice_pairs Try.underlying22 Try.underlying104 (by kernel_rfl) rfl rfl (by kernel_rfl) (by kernel_rfl) hf with ⟨hcs, _⟩ | ⟨x, l, c, m, n, V0, V1, D0, D1, P0, P1, hcs, _, hl, hm, hmm, _, hcell⟩
  · simp at hcs
    subst hcs
    exact ⟨_, _, _, rfl, Nat.zero_le _, fun _ => ⟨[], rfl, by simp, fun h => absurd h (by simp)⟩⟩
  · simp at hcs
    subst hcs
    simp only [if_true] at hmm
    subst hmm
    refine ⟨_, _, _, rfl, Nat.le_trans hl hm, fun hr => ?_⟩
    have each : ∀ i, i < l → ∃ q : Int × Int, V0 i = .int .i64 q.1 ∧ V1 i = .int .i64 q.2 := by
      intro i hi
      obtain ⟨_, _, t0, t1⟩ := hcell i (by omega)
      obtain ⟨z0, e0, _⟩ := DataW.trod_int Try.underlying3 t0
      obtain ⟨z1, e1, _⟩ := DataW.trod_int Try.underlying3 t1
      simp at e0 e1
      exact ⟨(z0, z1), e0, e1⟩
    obtain ⟨q, hq⟩ := Go.Deep.choose_lt each
    refine ⟨(List.range l).map q, by simp, by simpa using hr, fun h0 => ?_⟩
    simp only [List.length_map, List.length_range] at h0
    obtain ⟨b, off, spot⟩ := x
    have hc := (hcell 0 (by omega)).1
    have hspot : spot = none := by simpa [Addr.add] using World.cell?_spot hc
    subst hspot
    refine ⟨b, off, rfl, World.block_lt_of_cell? W ⟨b, off, none⟩ (by simpa [Addr.add] using hc), fun k hk => ?_⟩
    simp only [List.length_map, List.length_range] at hk
    obtain ⟨c0, c1, _⟩ := hcell k (by omega)
    rw [add_at] at c0 c1
    obtain ⟨e0, e1⟩ := hq k hk
    rw [e0] at c0
    rw [e1] at c1
    rw [Nat.add_assoc, c0, c1]
    have e : ((List.range l).map q).getD k (0, 0) = q k := by simp [List.getD, hk]
    unfold nl nr
    rw [e]; exact ⟨rfl, rfl⟩
theorem rows_of_trod {H : Type} {enc : TypeId × Value → H} {W : World} {held : Bool} {fuel : Nat} {v : Value} {x : DataW H × List MemPlace} (hy1 : DataW.trod enc Try.prog W 0 (fun _ => true) held fuel 24 [v] = some x) : ∃ (oa : Option Addr) (l c : Nat) (Ln : Nat → Nat), v = .slice oa l c ∧ RowsIn W oa l Ln := by
  rcases Go.Deep.open_int_rows Try.underlying24 Try.underlying68 Try.underlying3 (by kernel_rfl) (by kernel_rfl) hy1 with ⟨hcs, _⟩ | ⟨a, len, cap, A, L, C, Z, hcs, _, hl, hm, _, hr⟩
  · simp at hcs
    subst hcs
    exact ⟨_, _, _, fun _ => 0, rfl, Nat.zero_le _, fun h => absurd h (by simp)⟩
  · simp at hcs
    subst hcs
    refine ⟨_, _, _, L, rfl, Nat.le_trans hl hm, fun h0 => ?_⟩
    obtain ⟨b, off, spot⟩ := a
    have hc := (hr 0 (by omega)).1
    have hspot : spot = none := by simpa [Addr.add] using World.cell?_spot hc
    subst hspot
    refine ⟨b, off, rfl, World.block_lt_of_cell? W ⟨b, off, none⟩ (by simpa [Addr.add] using hc), fun r hrl => ?_⟩
    obtain ⟨h1, h2, h3, h4, h5, h6, h7⟩ := hr r (by omega)
    rw [add_at] at h1
    refine ⟨Nat.le_trans h2 h3, A r, C r, h1, fun hroom => ?_⟩
    refine IsRow.ints (cap := C r) (zs := Z r) ?_ hroom
    cases hA : A r with
    | none =>
      have hz : C r = 0 := h6 hA
      refine .inl ⟨rfl, by omega, hz, List.eq_nil_of_length_eq_zero (by omega)⟩
    | some a' =>
      obtain ⟨_, hcell⟩ := h7 a' hA
      exact .inr ⟨a', rfl, h2, h3, h4, fun i hi => hcell i (by omega), h5⟩
def InSr (w : World) (v : Value) : Prop := ∃ (n m a t : Int) (oa : Option Addr) (l c : Nat) (Ln : Nat → Nat) (vD : Value), v = .agg #[.int .i64 n, .slice oa l c, .int .i64 m, .int .i64 a, vD, .int .i64 t] ∧ RowsIn w oa l Ln ∧ InDeps w vD
  ∧ (Lit.int .i64 m).wf = true ∧ (Lit.int .i64 a).wf = true ∧ (Lit.int .i64 t).wf = true
theorem open_search {H : Type} {enc : TypeId × Value → H} {W : World} {base : Nat} {held : Bool} {v : Value} {d : DataW H} {ps : List MemPlace} (hok : Value.okWide Try.prog W .any base 47 v)
    (h : DataW.Trod enc Try.prog W 0 (fun _ => true) held 47 v d ps) : InSr W v := by
  obtain ⟨cs, rfl, hsz⟩ := okWide_struct Try.underlying47 hok
  obtain ⟨l⟩ := cs
  have hC : Try.prog.cellsOf 47 = 6 := by kernel_rfl
  match l, hsz.trans hC with
  | [v0, v1, v2, v3, v4, v5], _ =>
    obtain ⟨fuel, hf⟩ := h
    obtain ⟨xs, n, _, hx, _, hlen, hg⟩ := DataW.trod_struct Try.underlying47 hf
    match xs, hlen with
    | [y0, y1, y2, y3, y4], _ =>
      have g0 := hg 0 _ rfl
      have g1 := hg 1 _ rfl
      have g2 := hg 2 _ rfl
      have g3 := hg 3 _ rfl
      have g4 := hg 4 _ rfl
      have ci : Try.prog.cellsOf 3 = 1 := by kernel_rfl
      have ct : Try.prog.cellsOf 36 = 2 := by kernel_rfl
      have cd : Try.prog.cellsOf 22 = 1 := by kernel_rfl
      simp [Value.cells, ci, ct, cd] at g0 g1 g2 g3 g4
      obtain ⟨zs, k, _, _, _, hzl, hz⟩ := DataW.trod_struct Try.underlying36 g0
      match zs, hzl with
      | [z0, z1], _ =>
        have q0 := hz 0 _ rfl
        have q1 := hz 1 _ rfl
        have cr : Try.prog.cellsOf 24 = 1 := by kernel_rfl
        simp [ci, cr] at q0 q1
        obtain ⟨i0, e0, _, w0⟩ := DataW.trod_int Try.underlying3 q0
        obtain ⟨i1, e1, _, w1⟩ := DataW.trod_int Try.underlying3 g1
        obtain ⟨i2, e2, _, w2⟩ := DataW.trod_int Try.underlying3 g2
        obtain ⟨i4, e4, _, w4⟩ := DataW.trod_int Try.underlying3 g4
        simp at e0 e1 e2 e4
        subst e0 e1 e2 e4
        obtain ⟨oa, lr, cr, Ln, rfl, hR⟩ := rows_of_trod q1
        exact ⟨_, _, _, _, _, _, _, _, _, rfl, hR, deps_of_trod g3, w1, w2, w4⟩
end Go.Proofs.Ytjbmpnbfiahdhaa
