/- Lists of lists of ints of the call's own: owned, marked, held. -/
import Derived.Test.YtkanbnbofoabeaaTab2
import Derived.Test.YtkanbnbofoabeaaApp
namespace Go.Proofs.Ytkanbnbofoabeaa
open Go.RowKit
set_option linter.unusedVariables false
set_option maxRecDepth 100000

structure OwnRows (w : World) (B : Nat) (v : Value) (xs : List Value) (R : List (List Int)) : Prop where
  len : xs.length = R.length
  outer : OwnV w B v xs
  rows : ∀ j, j < R.length → ∃ o c, xs[j]? = some (.slice o (row R j).length c) ∧ OwnI w B (.slice o (row R j).length c) (row R j) ∧ Apart v (.slice o (row R j).length c)
  pair : ∀ i j, i < j → j < R.length → ∀ u u', xs[i]? = some u → xs[j]? = some u' → Apart u u'
theorem OwnRows.keep {w w' : World} {B : Nat} {v : Value} {xs : List Value} {R : List (List Int)} (h : OwnRows w B v xs R) (hb : Below w.heap.size w w') : OwnRows w' B v xs R :=
  ⟨h.len, h.outer.keep hb, fun j hj => by
    obtain ⟨o, c, h1, h2, h3⟩ := h.rows j hj
    exact ⟨o, c, h1, h2.keep hb, h3⟩, h.pair⟩
theorem OwnRows.based {w : World} {B B' : Nat} {v : Value} {xs : List Value} {R : List (List Int)} (h : OwnRows w B v xs R) (hb : B' ≤ B) : OwnRows w B' v xs R :=
  ⟨h.len, owns_base h.outer hb, fun j hj => by
    obtain ⟨o, c, h1, h2, h3⟩ := h.rows j hj
    exact ⟨o, c, h1, h2.based hb, h3⟩, h.pair⟩
theorem OwnRows.shape {w : World} {B : Nat} {v : Value} {xs : List Value} {R : List (List Int)} (h : OwnRows w B v xs R) : ∃ oa c, v = .slice oa R.length c := by
  obtain ⟨oa, c, e, _⟩ := owns_cells h.outer
  exact ⟨oa, c, by rw [e, h.len]⟩
theorem OwnRows.at_ {w : World} {B : Nat} {oa : Option Addr} {n c : Nat} {xs : List Value} {R : List (List Int)} (h : OwnRows w B (.slice oa n c) xs R) (h0 : 0 < R.length) :
    ∃ g, oa = some ⟨g, 0, none⟩ ∧ B ≤ g ∧ g < w.heap.size ∧ ∀ j, j < R.length → w.cell? ⟨g, j, none⟩ = xs[j]? := by
  obtain ⟨oa', c', e, hg⟩ := owns_cells h.outer
  simp only [Value.slice.injEq] at e
  obtain ⟨rfl, _, rfl⟩ := e
  obtain ⟨g, h1, h2, h3, _, h4, _⟩ := hg (by rw [h.len]; exact h0)
  exact ⟨g, h1, h2, h3, fun j hj => h4 j (by rw [h.len]; omega)⟩
theorem OwnRows.read {w : World} {B : Nat} {oa : Option Addr} {n c : Nat} {xs : List Value} {R : List (List Int)} (h : OwnRows w B (.slice oa n c) xs R) (hR : R.length ≤ Room) (hr : ∀ j, j < R.length → (row R j).length ≤ Room) : RowsAt w oa R :=
  ⟨hR, fun h0 => by
    obtain ⟨g, e, _, hlt, hc⟩ := h.at_ h0
    refine ⟨g, 0, e, hlt, fun j hj => ?_⟩
    obtain ⟨o, c', h1, h2, _⟩ := h.rows j hj
    exact ⟨o, c', by rw [Nat.zero_add, hc j hj]; exact h1, h2.ints rfl (hr j hj)⟩⟩

/-- Nothing has turned but in the blocks of these slices. -/
structure GrownMany (w w' : World) (vs : List Value) : Prop where
  os : w'.os = w.os
  tape : w'.tape = w.tape
  output : w'.output = w.output
  size : w.heap.size ≤ w'.heap.size
  block : ∀ k, k < w.heap.size → (∀ y ∈ vs, y.ownBlock ≠ some k) → w'.heap[k]? = w.heap[k]?
theorem GrownMany.refl (w : World) (vs : List Value) : GrownMany w w vs := ⟨rfl, rfl, rfl, Nat.le_refl _, fun _ _ _ => rfl⟩
theorem GrownMany.trans {a b c : World} {vs : List Value} (h : GrownMany a b vs) (k : GrownMany b c vs) : GrownMany a c vs :=
  ⟨k.os.trans h.os, k.tape.trans h.tape, k.output.trans h.output, Nat.le_trans h.size k.size, fun j hj hy => (k.block j (Nat.lt_of_lt_of_le hj h.size) hy).trans (h.block j hj hy)⟩
theorem GrownMany.one {a b : World} {vs : List Value} {u : Value} (h : a.grownBy b u.ownBlock) (hu : u ∈ vs) : GrownMany a b vs :=
  ⟨h.os, h.tape, h.output, h.size, fun j hj hy => h.block j hj fun e => hy u hu e.symm⟩
theorem GrownMany.of {a b : World} {vs : List Value} (h : Below a.heap.size a b) : GrownMany a b vs := ⟨h.os, h.tape, h.output, h.size, fun j hj _ => h.block j hj⟩
theorem owns_many {w w' : World} {base : Nat} {e : TypeId} {size : Nat} {v : Value} {n : Nat} {xs vs : List Value} (h : w.ownsRow base e size v n xs) (hg : GrownMany w w' vs) (ha : ∀ y ∈ vs, Apart v y) : w'.ownsRow base e size v n xs := by
  refine ⟨h.1, ?_⟩
  rcases h.2 with hn | ⟨g, cap, cur, rfl, hb, hgg, rest⟩
  · exact .inl hn
  · refine .inr ⟨g, cap, cur, rfl, hb, ?_, rest⟩
    rw [hg.block g (Array.getElem?_eq_some_iff.1 hgg).1 (fun y hy e => by
      rcases ha y hy with h' | h'
      · simp [Value.ownBlock] at h'
      · exact h' (by rw [e]; rfl))]
    exact hgg
theorem OwnI.many {w w' : World} {base : Nat} {v : Value} {L : List Int} {vs : List Value} (h : OwnI w base v L) (hg : GrownMany w w' vs) (ha : ∀ y ∈ vs, Apart v y) : OwnI w' base v L := owns_many h hg ha
theorem OwnD.many {w w' : World} {base : Nat} {v : Value} {L : List (Int × Int)} {vs : List Value} (h : OwnD w base v L) (hg : GrownMany w w' vs) (ha : ∀ y ∈ vs, Apart v y) : OwnD w' base v L := owns_many h hg ha
theorem below_many {B : Nat} {w a b : World} {vs : List Value} (h : Below B w a) (hB0 : B ≤ w.heap.size) (hg : GrownMany a b vs) (hB : ∀ y ∈ vs, ∀ g, y.ownBlock = some g → B ≤ g) : Below B w b :=
  h.trans ⟨hg.os, hg.tape, hg.output, hg.size, fun k hk => hg.block k (by have := h.size; omega) fun y hy e => by have := hB y hy k e; omega⟩
theorem OwnRows.low {w : World} {B : Nat} {v : Value} {xs : List Value} {R : List (List Int)} (h : OwnRows w B v xs R) : ∀ y ∈ xs, ∀ g, y.ownBlock = some g → B ≤ g := by
  intro y hy g hg
  obtain ⟨j, hj⟩ := List.mem_iff_getElem?.1 hy
  have hjl : j < R.length := by rw [← h.len]; exact (List.getElem?_eq_some_iff.1 hj).1
  obtain ⟨o, c, h1, h2, _⟩ := h.rows j hjl
  rw [h1] at hj
  injection hj with hj
  subst hj
  exact (World.ownsRow.lt h2 g hg).1
/-- What the call made before, and what it makes behind, lies apart from all of it. -/
theorem OwnRows.before {w w' : World} {base size n : Nat} {e : TypeId} {u v : Value} {ys xs : List Value} {R : List (List Int)} (h : w.ownsRow base e size u n ys) (h' : OwnRows w' w.heap.size v xs R) : ∀ y ∈ xs, Apart u y := by
  intro y hy
  obtain ⟨j, hj⟩ := List.mem_iff_getElem?.1 hy
  have hjl : j < R.length := by rw [← h'.len]; exact (List.getElem?_eq_some_iff.1 hj).1
  obtain ⟨o, c, h1, h2, _⟩ := h'.rows j hjl
  rw [h1] at hj
  injection hj with hj
  subst hj
  exact apart_old h h2
theorem OwnRows.behind {w w' : World} {size n : Nat} {e : TypeId} {u v : Value} {ys xs : List Value} {R : List (List Int)} {B : Nat} (h : OwnRows w B v xs R) (h' : w'.ownsRow w.heap.size e size u n ys) : ∀ y ∈ xs, Apart u y := by
  intro y hy
  obtain ⟨j, hj⟩ := List.mem_iff_getElem?.1 hy
  have hjl : j < R.length := by rw [← h.len]; exact (List.getElem?_eq_some_iff.1 hj).1
  obtain ⟨o, c, h1, h2, _⟩ := h.rows j hjl
  rw [h1] at hj
  injection hj with hj
  subst hj
  exact (apart_old h2 h').symm

def sumL (R : List (List Int)) (i : Nat) : Nat := ((R.take i).map List.length).sum
theorem sumL_succ {R : List (List Int)} {i : Nat} (h : i < R.length) : sumL R (i + 1) = sumL R i + (row R i).length := by
  unfold sumL
  rw [List.take_add_one, row_eq h]
  simp
theorem sumL_mono {R : List (List Int)} : ∀ {i j : Nat}, i ≤ j → j ≤ R.length → sumL R i ≤ sumL R j := by
  intro i j hij
  induction j with
  | zero => intro _; have : i = 0 := by omega
            subst this; exact Nat.le_refl _
  | succ j ih =>
    intro hj
    rcases Nat.lt_or_ge i (j + 1) with h | h
    · rw [sumL_succ (by omega)]; have := ih (by omega) (by omega); omega
    · have : i = j + 1 := by omega
      subst this; exact Nat.le_refl _
def seqR (k : Int) (R : List (List Int)) : List (List Int) := (List.range R.length).map fun j => seqI (k + sumL R j) (row R j).length
theorem seqR_length (k : Int) (R : List (List Int)) : (seqR k R).length = R.length := by simp [seqR]
theorem seqR_row {k : Int} {R : List (List Int)} {j : Nat} (h : j < R.length) : row (seqR k R) j = seqI (k + sumL R j) (row R j).length := by simp [row, seqR, List.getD, h]
theorem rows_ext {R S : List (List Int)} (hl : R.length = S.length) (h : ∀ j, j < R.length → row R j = row S j) : R = S := by
  apply List.ext_getElem hl
  intro j h1 h2
  have := h j h1
  simp [row, List.getD, h1, h2] at this
  exact this

set_option maxHeartbeats 800000 in
theorem c_markIntSS (oa) (c B : Nat) (xs : List Value) (R : List (List Int)) (k0 : Int) (w : World) (h : OwnRows w B (.slice oa R.length c) xs R) (hR : R.length ≤ Room) (hk0 : 0 ≤ k0 ∧ k0 + sumL R R.length ≤ 1073741824) :
    Calls Try.prog 72 #[.slice oa R.length c, .int .i64 k0] w fun e w' => e = .returned (.int .i64 (k0 + sumL R R.length)) ∧ OwnRows w' B (.slice oa R.length c) xs (seqR k0 R) ∧ GrownMany w w' xs := by
  unfold Room at hR
  obtain ⟨h01, h02⟩ := hk0
  have HX : Hid (k0 + sumL R R.length ≤ 1073741824) := h02
  clear h02
  go_enter Try.func72, Try.ntmps72
  go_wp2
  go_loopw [1, 5] (fun k i wr => ∃ (j : Nat) (M : List (List Int)), k = .int .i64 (k0 + sumL R j) ∧ i = .int .i64 j ∧ j ≤ R.length ∧ M.length = R.length ∧ (∀ t, t < R.length → (row M t).length = (row R t).length) ∧ (∀ t, t < j → row M t = seqI (k0 + sumL R t) (row R t).length) ∧
    OwnRows wr B (.slice oa R.length c) xs M ∧ GrownMany w wr xs) (fun _ i _ => R.length - (intOf i).toNat)
  case atStart => exact ⟨0, R, by simp [sumL], rfl, Nat.zero_le _, rfl, fun _ _ => rfl, fun t ht => absurd ht (by omega), h, GrownMany.refl _ _⟩
  case round =>
    clear h
    obtain ⟨j, M, rfl, rfl, hj, hM, hlen, hall, hO, hg⟩ := hrel
    have HM : Hid (M.length = R.length) := hM
    have HL : Hid (∀ t, t < R.length → (row M t).length = (row R t).length) := hlen
    have HA : Hid (∀ t, t < j → row M t = seqI (k0 + sumL R t) (row R t).length) := hall
    clear hM hlen hall
    by_cases hlt : j < R.length
    · obtain ⟨g, rfl, hBg, hgl, hcell⟩ := hO.at_ (by have := HM.out; omega)
      obtain ⟨o, c', h1, h2, h3⟩ := hO.rows j (by have := HM.out; omega)
      have hc1 := (hcell j (by have := HM.out; omega)).trans h1
      have hmono := sumL_mono (R := R) (i := j + 1) (j := R.length) (by omega) (Nat.le_refl _)
      have hsucc := sumL_succ hlt
      have hrl : (row M j).length ≤ 1073741824 := by have := HL.out j hlt; have := HX.out; omega
      have hk : 0 ≤ k0 + (sumL R j : Int) ∧ k0 + (sumL R j : Int) ≤ 1073741824 := by have := HX.out; omega
      have HS : Hid (sumL R (j + 1) = sumL R j + (row R j).length) := hsucc
      clear hcell hmono hsucc
      go_wp2_with fail
      refine (c_markIntS _ _ B _ _ hk _ hrl h2).mono ?_
      rintro e w1 ⟨rfl, hI, hg1⟩
      have HO2 : Hid (OwnRows w1 B (.slice (some ⟨g, 0, none⟩) R.length c) xs (M.set j (seqI (k0 + sumL R j) (row M j).length))) := by
        refine ⟨by rw [List.length_set]; exact hO.len, World.ownsRow.kept hO.outer hg1 h3, fun t ht => ?_, fun i t hi ht => hO.pair i t hi (by rw [List.length_set] at ht; exact ht)⟩
        rw [List.length_set] at ht
        by_cases e : t = j
        · subst e
          have er : row (M.set t (seqI (k0 + sumL R t) (row M t).length)) t = seqI (k0 + sumL R t) (row M t).length := by simp [row, List.getD, List.getElem?_set_self ht]
          rw [er, seqI_length]
          exact ⟨o, c', h1, hI, h3⟩
        · have er : row (M.set j (seqI (k0 + sumL R j) (row M j).length)) t = row M t := by simp [row, List.getD, List.getElem?_set_ne (Ne.symm e)]
          rw [er]
          obtain ⟨o2, c2, q1, q2, q3⟩ := hO.rows t ht
          refine ⟨o2, c2, q1, q2.far hg1 ?_, q3⟩
          rcases Nat.lt_or_ge t j with h' | h'
          · exact hO.pair t j h' (by have := HM.out; omega) _ _ q1 h1
          · exact (hO.pair j t (by omega) ht _ _ h1 q1).symm
      have HG : Hid (GrownMany w w1 xs) := hg.trans (GrownMany.one hg1 (List.mem_iff_getElem?.2 ⟨j, h1⟩))
      clear hO hg hI hg1 h1 h2 h3
      go_wp2
      go_roundw
      case rel =>
        refine ⟨j + 1, _, ?_, by go_num, by omega, by rw [List.length_set]; exact HM.out, fun t ht => ?_, ?_, HO2.out, HG.out⟩
        · rw [HS.out]; have := HL.out j hlt; simp; omega
        · by_cases e : t = j
          · subst e
            have er : row (M.set t (seqI (k0 + sumL R t) (row M t).length)) t = seqI (k0 + sumL R t) (row M t).length := by simp [row, List.getD, List.getElem?_set_self (show t < M.length by have := HM.out; omega)]
            rw [er, seqI_length]; exact HL.out t ht
          · have er : row (M.set j (seqI (k0 + sumL R j) (row M j).length)) t = row M t := by simp [row, List.getD, List.getElem?_set_ne (Ne.symm e)]
            rw [er]; exact HL.out t ht
        · refine lt_step (fun t ht => ?_) ?_
          · have er : row (M.set j (seqI (k0 + sumL R j) (row M j).length)) t = row M t := by simp [row, List.getD, List.getElem?_set_ne (show j ≠ t by omega)]
            rw [er]; exact HA.out t ht
          · have er : row (M.set j (seqI (k0 + sumL R j) (row M j).length)) j = seqI (k0 + sumL R j) (row M j).length := by simp [row, List.getD, List.getElem?_set_self (show j < M.length by have := HM.out; omega)]
            rw [er, HL.out j hlt]
      case measure => simp [intOf]; omega
    · have hjj : j = R.length := by omega
      have HJ : Hid (j = R.length) := hjj
      have HV : Hid (M = seqR k0 R) := rows_ext (by rw [seqR_length]; exact HM.out) fun t ht => by
        have h1 := HM.out
        rw [seqR_row (by omega)]
        exact HA.out t (by omega)
      clear hjj
      go_wp2
      go_ret
      exact ⟨ret_int (by rw [HJ.out]), by rw [← HV.out]; exact hO, hg⟩
theorem c_heldIntSS (oa) (c : Nat) (R : List (List Int)) (k0 : Int) (w : World) (hR : RowsAt w oa (seqR k0 R)) (hk0 : 0 ≤ k0 ∧ k0 + sumL R R.length ≤ 1073741824) :
    Ans Try.prog 73 #[.slice oa R.length c, .int .i64 k0] w (.int .i64 (k0 + sumL R R.length)) := by
  unfold Ans
  have hn : R.length ≤ 1073741824 := by have := hR.len; rw [seqR_length] at this; exact this
  obtain ⟨h01, h02⟩ := hk0
  have HX : Hid (k0 + sumL R R.length ≤ 1073741824) := h02
  clear h02
  go_enter Try.func73, Try.ntmps73
  go_wp2
  go_loopw [1, 5] (fun k i wr => ∃ j : Nat, k = .int .i64 (k0 + sumL R j) ∧ i = .int .i64 j ∧ j ≤ R.length ∧ Below w.heap.size w wr) (fun _ i _ => R.length - (intOf i).toNat)
  case atStart => exact ⟨0, by simp [sumL], rfl, Nat.zero_le _, Below.refl _ _⟩
  case round =>
    obtain ⟨j, rfl, rfl, hj, hb⟩ := hrel
    by_cases hlt : j < R.length
    · obtain ⟨b, off, rfl, hbs, hca⟩ := hR.at_ (by rw [seqR_length]; omega)
      obtain ⟨o, c', h1, h2⟩ := hca j (by rw [seqR_length]; omega)
      rw [seqR_row hlt, seqI_length] at h1
      rw [seqR_row hlt] at h2
      have hc1 := cell_keep h1 hb
      have hmono := sumL_mono (R := R) (i := j + 1) (j := R.length) (by omega) (Nat.le_refl _)
      have HS : Hid (sumL R (j + 1) = sumL R j + (row R j).length) := sumL_succ hlt
      have hk : 0 ≤ k0 + (sumL R j : Int) ∧ k0 + (sumL R j : Int) ≤ 1073741824 := by have := HX.out; have := HS.out; omega
      clear hca h1 hmono
      go_wp2_with fail
      refine Calls.mono (c_heldIntS _ _ _ _ hk _ (h2.keep hb)) ?_
      rintro e w1 ⟨rfl, hbn⟩
      replace hb := bel_to hb hbn
      clear hbn hc1 h2
      go_wp2
      go_roundw
      case rel => exact ⟨j + 1, by rw [HS.out]; simp; omega, by go_num, by omega, hb⟩
      case measure => simp [intOf]; omega
    · have hjj : j = R.length := by omega
      have HJ : Hid (j = R.length) := hjj
      clear hjj
      go_wp2
      go_ret
      exact ⟨ret_int (by rw [HJ.out]), hb⟩
end Go.Proofs.Ytkanbnbofoabeaa
