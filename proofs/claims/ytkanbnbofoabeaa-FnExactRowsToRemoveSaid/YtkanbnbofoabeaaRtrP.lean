/- How many rows have to be removed, and the smallest sets taken in the order of size. No walk in sight. -/
import Derived.Test.YtkanbnbofoabeaaPtn
import Derived.Test.YtkanbnbofoabeaaMinD2
namespace Go.Proofs.Ytkanbnbofoabeaa
open Go.RowKit
set_option linter.unusedVariables false
set_option maxRecDepth 100000

def cellF (R : List (List Int)) (x r : Int) : Int := nth (row R x.toNat) r.toNat
def pairB (R : List (List Int)) (m r : Int) (C : List Int) (k j : Nat) : Bool := (nth C k != nth C j) && eqCellF m (cellF R (nth C k) r) (cellF R (nth C j) r)
def cntN (p : Nat → Bool) (t : Nat) : Nat := ((List.range t).filter p).length
def mostTo (R : List (List Int)) (m r : Int) (C : List Int) (t : Nat) : Int := (List.range t).foldl (fun a k => max a (1 + (cntN (pairB R m r C k) C.length : Int))) 0
def sumTo (R : List (List Int)) (m r : Int) (P : List (List Int)) (t : Nat) : Int := (List.range t).foldl (fun a c => a + ((row P c).length - mostTo R m r (row P c) (row P c).length)) 0
def rrF (n : Int) (R : List (List Int)) (m l r : Int) : Int := if askF n R m l r then sumTo R m r (ptnQ (sameB R m l) R.length R.length) (ptnQ (sameB R m l) R.length R.length).length else -1

theorem cnt_succ (p : Nat → Bool) (t : Nat) : cntN p (t + 1) = cntN p t + if p t then 1 else 0 := by
  unfold cntN
  rw [List.range_succ, List.filter_append, List.length_append]
  cases h : p t <;> simp [List.filter_cons, h]
theorem cnt_le (p : Nat → Bool) (t : Nat) : cntN p t ≤ t := by
  unfold cntN
  have := List.length_filter_le p (List.range t)
  rw [List.length_range] at this
  exact this
theorem most_succ (R : List (List Int)) (m r : Int) (C : List Int) (t : Nat) : mostTo R m r C (t + 1) = max (mostTo R m r C t) (1 + (cntN (pairB R m r C t) C.length : Int)) := by unfold mostTo; rw [range_succ_fold]
theorem most_bd (R : List (List Int)) (m r : Int) (C : List Int) : ∀ t, 0 ≤ mostTo R m r C t ∧ mostTo R m r C t ≤ C.length + 1
  | 0 => by simp [mostTo]; omega
  | t + 1 => by
    rw [most_succ]
    have h1 := most_bd R m r C t
    have h2 := cnt_le (pairB R m r C t) C.length
    omega
theorem sum_succ (R : List (List Int)) (m r : Int) (P : List (List Int)) (t : Nat) : sumTo R m r P (t + 1) = sumTo R m r P t + ((row P t).length - mostTo R m r (row P t) (row P t).length) := by unfold sumTo; rw [range_succ_fold]
theorem sum_bd {R : List (List Int)} {m r : Int} {P : List (List Int)} (hP : ∀ j, j < P.length → (row P j).length ≤ 41) : ∀ t, t ≤ P.length → -(t : Int) ≤ sumTo R m r P t ∧ sumTo R m r P t ≤ 41 * t
  | 0, _ => by simp [sumTo]
  | t + 1, ht => by
    rw [sum_succ]
    have h1 := sum_bd (R := R) (m := m) (r := r) hP t (by omega)
    have h2 := most_bd R m r (row P t) (row P t).length
    have h3 := hP t (by omega)
    omega
theorem cls_low {q : Nat → Nat → Bool} {N i : Nat} (hi : i < N) : ∀ x ∈ clsTo q i N, ∃ e : Nat, x = e ∧ e < N := by
  intro x hx
  rcases cls_mem.1 hx with rfl | ⟨k, rfl, h, _⟩
  · exact ⟨i, rfl, hi⟩
  · exact ⟨k, rfl, h⟩
theorem cls_up {q : Nat → Nat → Bool} {i t : Nat} : Up (clsTo q i t) := by
  unfold Up clsTo
  rw [List.pairwise_cons]
  refine ⟨fun x hx => ?_, ?_⟩
  · obtain ⟨k, hk, rfl⟩ := List.mem_map.1 hx
    have := (List.mem_filter.1 hk).2
    simp only [Bool.and_eq_true, decide_eq_true_eq] at this
    omega
  · rw [List.pairwise_map]
    refine List.Pairwise.filter _ ?_
    refine List.Pairwise.imp ?_ List.pairwise_lt_range
    intro a b h; omega
theorem up_ne {C : List Int} (h : Up C) {k j : Nat} (hk : k < C.length) (hj : j < C.length) : (nth C k != nth C j) = decide (k ≠ j) := by
  unfold Up at h
  rw [List.pairwise_iff_getElem] at h
  have ek : C[k] = nth C k := by have := nth_eq hk; rw [List.getElem?_eq_getElem hk] at this; injection this
  have ej : C[j] = nth C j := by have := nth_eq hj; rw [List.getElem?_eq_getElem hj] at this; injection this
  by_cases e : k = j
  · subst e; simp
  · have : nth C k ≠ nth C j := by
      rcases Nat.lt_or_ge k j with h' | h'
      · have := h k j hk hj h'; rw [ek, ej] at this; omega
      · have := h j k hj hk (by omega); rw [ek, ej] at this; omega
    simp [e, this]

def someF (p : Int → Int → Bool) (P : List Int) (r : Int) : List Int := P.filter fun x => !hasc x r && p x r
def lowF (p : Int → Int → Bool) (P : List Int) (r : Int) : List Int := minF (someF p P r)
theorem some_st {N : Nat} (hN : N ≤ 5) {p : Int → Int → Bool} {r : Int} : ∀ x ∈ someF p (partsF N) r, St x := by
  intro x hx
  have h := (partsF_mem (n := (N : Int)) (by omega) (by omega)).1 (List.mem_filter.1 hx).1
  have h2 := (pow_wrap (n := (N : Int)) (by omega) (by omega)).2.1
  exact ⟨h.1, by omega⟩
theorem some_len (p : Int → Int → Bool) (n r : Int) : (someF p (partsF n) r).length ≤ 32 := by
  have h := List.length_filter_le (fun x => !hasc x r && p x r) (partsF n)
  have := partsF_len n
  unfold someF; omega
theorem low_mem {N : Nat} (hN : N ≤ 5) {p : Int → Int → Bool} {r x : Int} : x ∈ lowF p (partsF N) r ↔ x ∈ someF p (partsF N) r ∧ ∀ y ∈ someF p (partsF N) r, ins y x = true → y = x := by
  have hs : setsF (someF p (partsF N) r) = true := List.all_eq_true.2 fun x hx => by simpa [stB] using some_st hN x hx
  have hl := some_len p N r
  unfold lowF
  rw [minF_sets hs (by omega), flt_mem, Bool.and_eq_true, minB_iff]
  constructor
  · rintro ⟨_, h1, h2⟩; exact ⟨by simpa [inB'] using h1, h2⟩
  · rintro ⟨h1, h2⟩
    have := some_st hN x h1
    exact ⟨by unfold St at this; omega, by simpa [inB'] using h1, h2⟩
theorem low_below {N : Nat} (hN : N ≤ 5) {p : Int → Int → Bool} {r z : Int} (hz : z ∈ someF p (partsF N) r) : ∃ x ∈ lowF p (partsF N) r, ins x z = true := by
  have sz := some_st hN z hz
  obtain ⟨x, hx, hi⟩ := exists_min (p := inB' (someF p (partsF N) r)) (card z) z (Nat.le_refl _) sz (by simpa [inB'] using hz)
  obtain ⟨sx, px, mx⟩ := minL_mem.1 hx
  refine ⟨x, (low_mem hN).2 ⟨by simpa [inB'] using px, fun y hy hi => mx y (some_st hN y hy) (by simpa [inB'] using hy) hi⟩, hi⟩
theorem taken_low {N : Nat} (hN : N ≤ 5) {p : Int → Int → Bool} {r : Int} : ∀ k, k ≤ (partsF N).length → takenF p r ((partsF N).take k) = ((partsF N).take k).filter (inB' (lowF p (partsF N) r))
  | 0, _ => by simp [takenF]
  | k + 1, hk => by
    have hlt : k < (partsF N).length := by omega
    rw [taken_succ _ _ hlt, taken_low hN k (by omega), filter_take_succ _ _ _ hlt]
    have hup := up_index (parts_up hN) hlt
    have hxm : nth (partsF N) k ∈ partsF N := List.mem_iff_getElem?.2 ⟨k, nth_eq hlt⟩
    generalize nth (partsF N) k = x at *
    have key : ((!hasc x r && !anyIns (((partsF N).take k).filter (inB' (lowF p (partsF N) r))) x) && p x r) = inB' (lowF p (partsF N) r) x := by
      rw [Bool.eq_iff_iff]
      simp only [Bool.and_eq_true, Bool.not_eq_true']
      have e0 : inB' (lowF p (partsF N) r) x = true ↔ x ∈ lowF p (partsF N) r := by simp [inB']
      rw [e0]
      constructor
      · rintro ⟨⟨h1, h2⟩, h3⟩
        have hxs : x ∈ someF p (partsF N) r := List.mem_filter.2 ⟨hxm, by rw [h1, h3]; rfl⟩
        have sx := some_st hN x hxs
        obtain ⟨y, hy, hi⟩ := low_below hN hxs
        by_cases e : y = x
        · rw [← e]; exact hy
        · exfalso
          have hys := ((low_mem hN).1 hy).1
          have sy := some_st hN y hys
          have hc := card_lt sy sx hi e
          have hyt := hup.1 y (List.mem_filter.1 hys).1 (by unfold keyI; unfold St at sx sy; omega)
          have : anyIns (((partsF N).take k).filter (inB' (lowF p (partsF N) r))) x = true := List.any_eq_true.2 ⟨y, List.mem_filter.2 ⟨hyt, by simpa [inB'] using hy⟩, hi⟩
          rw [this] at h2; cases h2
      · intro hx
        obtain ⟨hxs, hmin⟩ := (low_mem hN).1 hx
        have hxp := (List.mem_filter.1 hxs).2
        simp only [Bool.and_eq_true, Bool.not_eq_true'] at hxp
        refine ⟨⟨hxp.1, ?_⟩, hxp.2⟩
        cases ha : anyIns (((partsF N).take k).filter (inB' (lowF p (partsF N) r))) x
        · rfl
        · exfalso
          obtain ⟨y, hy, hyx⟩ := List.any_eq_true.1 ha
          obtain ⟨hyt, hyl⟩ := List.mem_filter.1 hy
          have hyl : y ∈ lowF p (partsF N) r := by simpa [inB'] using hyl
          have e := hmin y ((low_mem hN).1 hyl).1 hyx
          have := hup.2 y hyt
          rw [e] at this
          omega
    unfold stepM
    rw [key]
    split
    · rfl
    · simp
def appOk (n : Int) (R : List (List Int)) (m q x r : Int) : Bool := decide (rrF n R m x r ≤ q)
def apprF (n : Int) (R : List (List Int)) (m q : Int) : List (Int × Int) := if (isTabF n R && modeF m) && decide (0 ≤ q) then colsF (appOk n R m q) (partsF n) n.toNat else []
theorem appr_len (n : Int) (R : List (List Int)) (m q : Int) : (apprF n R m q).length ≤ Room := by
  unfold apprF
  split
  · next h =>
    simp only [Bool.and_eq_true] at h
    obtain ⟨h1, h5, _, _⟩ := isTab_of h.1.1
    have a := colsF_len (appOk n R m q) (partsF n) n.toNat
    have b := partsF_len n
    have c : (partsF n).length * n.toNat ≤ 32 * 5 := Nat.mul_le_mul b (by omega)
    unfold Room; omega
  · simp
theorem colF_low {N : Nat} (hN : N ≤ 5) (p : Int → Int → Bool) (r : Int) : colF p (partsF N) r = ((partsF N).filter (inB' (lowF p (partsF N) r))).map fun x => (x, r) := by
  unfold colF
  have h := taken_low (p := p) (r := r) hN (partsF N).length (Nat.le_refl _)
  rw [List.take_length] at h
  rw [h]
end Go.Proofs.Ytkanbnbofoabeaa
