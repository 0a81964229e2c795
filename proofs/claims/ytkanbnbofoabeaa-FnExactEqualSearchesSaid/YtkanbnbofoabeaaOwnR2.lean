/- A copy of a table that the call owns; its marks. -/
import Derived.Test.YtkanbnbofoabeaaOwnR
namespace Go.Proofs.Ytkanbnbofoabeaa
open Go.RowKit
set_option linter.unusedVariables false
set_option maxRecDepth 100000

set_option maxHeartbeats 800000 in
theorem c_toIntSSo (oa) (ca : Nat) (R : List (List Int)) (w : World) (hR : RowsAt w oa R) :
    Calls Try.prog 78 #[.slice oa R.length ca] w fun e w' => ∃ o c xs, e = .returned (.slice o R.length c) ∧ OwnRows w' w.heap.size (.slice o R.length c) xs R ∧ Below w.heap.size w w' := by
  have hn : R.length ≤ 1073741824 := hR.len
  obtain ⟨i0, hi, hz0, hz1, hz2⟩ := info_parts info_ints
  go_enter Try.func78, Try.ntmps78
  go_wp2_with (first | (at_make; refine wpList_make_full _ rfl _ _ 26 rfl w.heap.size 69 i0 (.slice none 0 0) 1 Try.underlying26 hi hz0 hz1 .i64 .i64 _ _ R.length rfl rfl rfl rfl (by rw [hz2]; omega) (by unfold maxLen; omega) (Nat.le_refl _) ?_; intro w1 hown hgrow))
  have hI := ownV_made hown
  have hb1 : Below w.heap.size w w1 := below_grown hgrow (Nat.le_refl _) (by simp)
  clear hown hgrow hi hz0 hz1 hz2 i0
  go_loopw [4] (fun i wr => ∃ (k : Nat) (xs : List Value), i = .int .i64 k ∧ k ≤ R.length ∧ xs.length = R.length ∧ (∀ j, j < k → ∃ o c, xs[j]? = some (.slice o (row R j).length c) ∧ OwnI wr (w.heap.size + 1) (.slice o (row R j).length c) (row R j)) ∧ (∀ i j, i < j → j < k → ∀ u u', xs[i]? = some u → xs[j]? = some u' → Apart u u') ∧
      OwnV wr w.heap.size (.slice (some ⟨w.heap.size, 0, none⟩) R.length R.length) xs ∧ Below w.heap.size w wr) (fun i _ => R.length - (intOf i).toNat)
  case atStart => exact ⟨0, _, rfl, Nat.zero_le _, by simp, fun j hj => absurd hj (by omega), fun i j _ hj => absurd hj (by omega), hI, hb1⟩
  case round =>
    clear hI hb1
    obtain ⟨k, xs, rfl, hk, hM, hall, hpair, hI, hb⟩ := hrel
    have HM : Hid (xs.length = R.length) := hM
    have HA : Hid (∀ j, j < k → ∃ o c, xs[j]? = some (.slice o (row R j).length c) ∧ OwnI wr (w.heap.size + 1) (.slice o (row R j).length c) (row R j)) := hall
    have HP : Hid (∀ i j, i < j → j < k → ∀ u u', xs[i]? = some u → xs[j]? = some u' → Apart u u') := hpair
    clear hall hM hpair
    by_cases hlt : k < R.length
    · obtain ⟨b, off, rfl, hbs, hc⟩ := hR.at_ (by omega)
      obtain ⟨o, c, hc0, hrow⟩ := hc k hlt
      have hc1 := cell_keep hc0 hb
      have hgl := (World.ownsRow.lt hI w.heap.size rfl).2
      clear hc hc0
      go_wp2_with fail
      refine (c_toIntS _ _ _ _ (hrow.keep hb)).mono ?_
      rintro en w1 ⟨v1, rfl, h1, hbn⟩
      obtain ⟨o1, c1, rfl⟩ := h1.shape
      have hwr : OwnI wr w.heap.size (.slice o1 (row R k).length c1) (row R k) → True := fun _ => trivial
      have HP2 : Hid (∀ i, i < k → ∀ u, xs[i]? = some u → Apart u (.slice o1 (row R k).length c1)) := fun i hi u hu => by
        obtain ⟨o', c', q1, q2⟩ := HA.out i hi
        rw [q1] at hu
        injection hu with hu
        subst hu
        exact apart_old q2 h1
      replace hI := hI.keep hbn
      replace hb := bel_to hb hbn
      obtain ⟨hg1, hg2⟩ := hI.cell HM.out.symm k hlt
      rw [List.getElem?_eq_getElem (by have := HM.out; omega)] at hg1
      have hapart : ∀ {v : Value} {L : List Int}, OwnI w1 (w.heap.size + 1) v L → OwnI (w1.setCell ⟨w.heap.size, k, none⟩ (.slice o1 (row R k).length c1)) (w.heap.size + 1) v L := fun {v L} hv =>
        World.ownsRow.kept hv (grown_set w1 w.heap.size k _) (by
          cases e : v.ownBlock with
          | none => exact .inl rfl
          | some b => exact .inr (fun e' => by injection e' with e'; have := (World.ownsRow.lt hv b e).1; omega))
      have HI2 := (show Hid _ from hI.store HM.out.symm k (.slice o1 (row R k).length c1) rfl)
      have HB2 := (show Hid _ from Below.setCell (p := (⟨w.heap.size, k, none⟩ : Addr)) hb (Nat.le_refl _) (.slice o1 (row R k).length c1))
      have HR2 : Hid (OwnI (w1.setCell ⟨w.heap.size, k, none⟩ (.slice o1 (row R k).length c1)) (w.heap.size + 1) (.slice o1 (row R k).length c1) (row R k)) := hapart (h1.based (by omega))
      have HA2 : Hid (∀ j, j < k → ∃ o c, xs[j]? = some (.slice o (row R j).length c) ∧ OwnI (w1.setCell ⟨w.heap.size, k, none⟩ (.slice o1 (row R k).length c1)) (w.heap.size + 1) (.slice o (row R j).length c) (row R j)) := fun j hj => by
        obtain ⟨o', c', h1', h2'⟩ := HA.out j hj
        exact ⟨o', c', h1', hapart (h2'.keep hbn)⟩
      clear h1 hbn HA hI hb hapart hwr
      generalize hxk : xs[k]'(by have := HM.out; omega) = xk at hg1
      go_wp2
      go_roundw
      case rel =>
        refine ⟨k + 1, xs.set k (.slice o1 (row R k).length c1), by go_num, by omega, by rw [List.length_set]; exact HM.out, ?_, ?_, HI2.out, HB2.out⟩
        · refine lt_step (fun j hj => ?_) ⟨o1, c1, ?_, HR2.out⟩
          · obtain ⟨o', c', h1', h2'⟩ := HA2.out j hj
            exact ⟨o', c', by rw [List.getElem?_set_ne (by omega)]; exact h1', h2'⟩
          · rw [List.getElem?_set_self (by have := HM.out; omega)]
        · intro i j hij hj u u' hu hu'
          rw [List.getElem?_set_ne (by omega)] at hu
          by_cases e : j = k
          · subst e
            rw [List.getElem?_set_self (by have := HM.out; omega)] at hu'
            injection hu' with hu'
            subst hu'
            exact HP2.out i hij u hu
          · rw [List.getElem?_set_ne (by omega)] at hu'
            exact HP.out i j hij (by omega) u u' hu hu'
      case measure => simp [intOf]; omega
    · have hkk : k = R.length := by omega
      have HK : Hid (k = R.length) := hkk
      clear hkk
      go_wp2
      go_ret
      refine ⟨_, _, xs, rfl, ⟨HM.out, hI, fun j hj => ?_, fun i j hij hj => HP.out i j hij (by have := HK.out; omega)⟩, hb⟩
      obtain ⟨o', c', h1', h2'⟩ := HA.out j (by have := HK.out; omega)
      refine ⟨o', c', h1', h2'.based (by omega), ?_⟩
      cases e : (Value.slice o' (row R j).length c').ownBlock with
      | none => exact Apart.symm (.inl e)
      | some b =>
        have h3 := (World.ownsRow.lt h2' b e).1
        exact .inr (fun e' => by
          rw [e] at e'
          simp [Value.ownBlock] at e'
          omega)

theorem OwnRows.cap {w : World} {B : Nat} {oa : Option Addr} {c : Nat} {xs : List Value} {R : List (List Int)} (h : OwnRows w B (.slice oa R.length c) xs R) : R.length ≤ c := by
  obtain ⟨oa', c', e, hg⟩ := owns_cells h.outer
  simp only [Value.slice.injEq] at e
  obtain ⟨rfl, _, rfl⟩ := e
  rcases Nat.eq_zero_or_pos R.length with h0 | h0
  · omega
  · obtain ⟨_, _, _, _, h4, _⟩ := hg (by rw [h.len]; exact h0)
    rw [h.len] at h4; exact h4
theorem cell_many {w w' : World} {B j base : Nat} {u : Value} {vs : List Value} (h : w.cell? ⟨B, j, none⟩ = some u) (hg : GrownMany w w' vs) (low : ∀ y ∈ vs, ∀ g, y.ownBlock = some g → base ≤ g) (hB : B < base) : w'.cell? ⟨B, j, none⟩ = some u :=
  (World.cell?_of_block (hg.block B (World.block_lt_of_cell? w ⟨B, j, none⟩ h) (fun y hy e => by have := low y hy B e; omega))).trans h
theorem OwnRows.far_set {w : World} {B g : Nat} {v : Value} {xs : List Value} {R : List (List Int)} (h : OwnRows w B v xs R) (j : Nat) (u : Value) (hg : g < B) : OwnRows (w.setCell ⟨g, j, none⟩ u) B v xs R := by
  have hk : ∀ {e : TypeId} {size n : Nat} {y : Value} {zs : List Value}, w.ownsRow B e size y n zs → (w.setCell ⟨g, j, none⟩ u).ownsRow B e size y n zs := fun {e size n y zs} hy =>
    World.ownsRow.kept hy (grown_set w g j _) (by
      cases e : y.ownBlock with
      | none => exact .inl rfl
      | some b => exact .inr (fun e' => by injection e' with e'; have := (World.ownsRow.lt hy b e).1; omega))
  exact ⟨h.len, hk h.outer, fun t ht => by
    obtain ⟨o, c, h1, h2, h3⟩ := h.rows t ht
    exact ⟨o, c, h1, hk h2, h3⟩, h.pair⟩
theorem c_toTableO (n : Int) (oa) (ca : Nat) (R : List (List Int)) (w : World) (hR : RowsAt w oa R) :
    Calls Try.prog 28 #[.agg #[.int .i64 n, .slice oa R.length ca]] w fun e w' => ∃ o c xs, e = .returned (.agg #[.int .i64 n, .slice o R.length c]) ∧ OwnRows w' w.heap.size (.slice o R.length c) xs R ∧ Below w.heap.size w w' := by
  have hb0 := ((((Below.refl w.heap.size w).alloc (Nat.le_refl _) (.cells #[.int .i64 n, .slice oa R.length ca] 40)).alloc (by simp) (.cells #[.int .i64 0, .slice none 0 0] 28)).alloc (by simp; omega) (.cells #[.int .i64 n, .slice none 0 0] 28))
  go_enter Try.func28, Try.ntmps28
  go_wp2_with fail
  refine (c_toIntSSo _ _ _ _ (hR.keep hb0)).mono ?_
  rintro e w1 ⟨o, c, xs, rfl, hN, hbn⟩
  have k1 : Blk w1 (w.heap.size + 1) #[.int .i64 0, .slice none 0 0] 28 := by
    have := (Blk.new (w.alloc (.cells #[.int .i64 n, .slice oa R.length ca] 40)) #[.int .i64 0, .slice none 0 0] 28).alloc (.cells #[.int .i64 n, .slice none 0 0] 28)
    simp only [World.size_alloc] at this
    exact this.keep hbn
  have k2 : Blk w1 (w.heap.size + 1 + 1) #[.int .i64 n, .slice none 0 0] 28 := by
    have := Blk.new ((w.alloc (.cells #[.int .i64 n, .slice oa R.length ca] 40)).alloc (.cells #[.int .i64 0, .slice none 0 0] 28)) #[.int .i64 n, .slice none 0 0] 28
    simp only [World.size_alloc] at this
    exact this.keep hbn
  have a10 := k1.cell 0 _ rfl
  have a11 := k1.cell 1 _ rfl
  have f10 := k1.free 0
  have f11 := k1.free 1
  have a20 := k2.cell 0 _ rfl
  have a21 := k2.cell 1 _ rfl
  have f20 := k2.free 0
  have f21 := k2.free 1
  replace hb0 := bel_to hb0 hbn
  clear hbn k1 k2
  go_wp2
  exact bodyPost_ret (v := .agg #[.int .i64 n, .slice o R.length c]) (by simp [results, Try.results28, go_sem, a10, a11, a20, a21]) rfl
    ⟨o, c, xs, rfl, (((hN.far_set 1 _ (by simp)).far_set 0 _ (by simp)).far_set 1 _ (by simp)).based (by simp; omega), Below.setCell (Below.setCell (Below.setCell hb0 (by simp; omega) _) (by simp) _) (by simp) _⟩
theorem c_markTable (n : Int) (oa) (c B : Nat) (xs : List Value) (R : List (List Int)) (k0 : Int) (w : World) (h : OwnRows w B (.slice oa R.length c) xs R) (hR : R.length ≤ Room) (hk0 : 0 ≤ k0 ∧ k0 + sumL R R.length ≤ 1073741824) :
    Calls Try.prog 24 #[.agg #[.int .i64 n, .slice oa R.length c], .int .i64 k0] w fun e w' => e = .returned (.int .i64 (k0 + sumL R R.length)) ∧ OwnRows w' B (.slice oa R.length c) xs (seqR k0 R) ∧ GrownMany w w' xs := by
  have hb := (Below.refl w.heap.size w).alloc (Nat.le_refl _) (.cells #[.int .i64 n, .slice oa R.length c] 28)
  go_enter Try.func24, Try.ntmps24
  go_wp2_with fail
  refine (c_markIntSS _ _ B xs _ _ _ (h.keep hb) hR hk0).mono ?_
  rintro e w1 ⟨rfl, hO, hg⟩
  have HG : Hid (GrownMany w w1 xs) := (GrownMany.of hb).trans hg
  clear hg hb h
  go_wp2
  go_ret
  exact ⟨rfl, hO, HG.out⟩
theorem c_heldTable (n : Int) (oa) (c : Nat) (R : List (List Int)) (k0 : Int) (w : World) (hR : RowsAt w oa (seqR k0 R)) (hk0 : 0 ≤ k0 ∧ k0 + sumL R R.length ≤ 1073741824) :
    Ans Try.prog 25 #[.agg #[.int .i64 n, .slice oa R.length c], .int .i64 k0] w (.int .i64 (k0 + sumL R R.length)) := by
  unfold Ans
  have hb := (Below.refl w.heap.size w).alloc (Nat.le_refl _) (.cells #[.int .i64 n, .slice oa R.length c] 28)
  have hlt : ¬ (k0 + (sumL R R.length : Int) < 0) := by have := hk0.1; omega
  have hlt2 : decide (k0 + (sumL R R.length : Int) < 0) = false := decide_eq_false hlt
  go_enter Try.func25, Try.ntmps25
  go_wp2_with (first | (go_at_call 73; refine Calls.mono (c_heldIntSS _ _ _ _ _ (hR.keep hb) hk0) ?_; rintro e w1 ⟨rfl, hbn⟩; replace hb := bel_to (w := w) (by first | exact hb | exact hb.alloc hb.size _ | exact (hb.alloc hb.size _).alloc (Nat.le_trans hb.size (by simp)) _ | exact hb.setCell (by simp [hb.size]) _) hbn; clear hbn))
  go_ret
  exact ⟨rfl, hb⟩
end Go.Proofs.Ytkanbnbofoabeaa
