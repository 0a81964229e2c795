/- slices.Sort and slices.Compact at []int, on a slice of the call's own; distinct, of the program. -/
import Derived.Test.YtkanbnbofoabeaaShelf
import Derived.Test.YtkanbnbofoabeaaApp
import Derived.Test.YtkanbnbofoabeaaMin
import Derived.Sort.OwnSortedInts
import Derived.Lib.OwnBridge
namespace Go.Proofs.Ytkanbnbofoabeaa
open Go.RowKit
set_option linter.unusedVariables false
set_option maxRecDepth 100000

theorem c_Sort (oa) (cap base : Nat) (L : List Int) (w : World) (hL : L.length ≤ Room) (h : OwnI w base (.slice oa L.length cap) L) :
    Calls Try.prog 159 #[.slice oa L.length cap] w fun e w' => e = .returned (.tuple #[]) ∧ OwnI w' base (.slice oa L.length cap) (sortI L) ∧ w.grownBy w' (Value.slice oa L.length cap).ownBlock := by
  unfold Room at hL
  by_cases h0 : L = []
  · subst h0
    exact (Try.slices_Sort_int_none oa cap w).mono fun e w' ⟨he, hw⟩ => ⟨he, by subst hw; simpa [sortI] using h, by subst hw; exact grown_refl _ _⟩
  · rcases h.2 with ⟨hv, hn⟩ | ⟨g, c, cur, hv, hbase, hb, h1, h2, h3, h4⟩
    · exact absurd (List.eq_nil_of_length_eq_zero hn) h0
    · simp only [Value.slice.injEq] at hv
      obtain ⟨rfl, _, rfl⟩ := hv
      have hg : g < w.heap.size := (Array.getElem?_eq_some_iff.1 hb).1
      refine (Try.slices_Sort_int g 0 cap L w (holds_of_blockI hb (by rw [← Nat.mul_one L.length]; exact h4)) hg (by omega)).mono fun e w' ⟨he, n, os, hw⟩ => ⟨he, ?_, ?_⟩
      · subst hw
        have := ownsRow_sortedI (n := n) (os := os) (ts := sortI L) (sortI_length L) hbase hb h1 h2 h3
        unfold OwnI
        rw [sortI_length]
        exact this
      · subst hw
        exact grownBy_sortedI _
theorem compact_le (L : List Int) : (Lib.compact L).length ≤ L.length := Lib.compact_length_le L
theorem c_Compact (oa) (cap base : Nat) (L : List Int) (w : World) (hL : L.length ≤ Room) (h : OwnI w base (.slice oa L.length cap) L) :
    Calls Try.prog 160 #[.slice oa L.length cap] w fun e w' => e = .returned (.slice oa (Lib.compact L).length cap) ∧ OwnI w' base (.slice oa (Lib.compact L).length cap) (Lib.compact L) ∧ w.grownBy w' (Value.slice oa L.length cap).ownBlock := by
  unfold Room at hL
  by_cases h0 : L = []
  · subst h0
    exact (Try.slices_Compact_int_empty oa cap w).mono fun e w' ⟨he, hw⟩ => ⟨he, by subst hw; simpa [Lib.compact, Lib.compactUpTo] using h, by subst hw; exact grown_refl _ _⟩
  · rcases h.2 with ⟨hv, hn⟩ | ⟨g, c, cur, hv, hbase, hb, h1, h2, h3, h4⟩
    · exact absurd (List.eq_nil_of_length_eq_zero hn) h0
    · simp only [Value.slice.injEq] at hv
      obtain ⟨rfl, _, rfl⟩ := hv
      refine (Try.slices_Compact_int g 0 cap L w (holds_of_blockI hb (by rw [← Nat.mul_one L.length]; exact h4)) (by omega) h1).mono fun e w' ⟨he, q, hw⟩ => ⟨he, ?_, ?_⟩
      · subst hw
        have hle := compact_le L
        have hc := Lib.ownsRow_putRow (enc := Value.int .i64) (q := q) (k := (Lib.compact L).length) (ys := Lib.compact L ++ List.replicate (L.length - (Lib.compact L).length) 0) (zs := L) h (by simp; omega) (by omega)
        rw [List.take_left] at hc
        exact hc
      · subst hw
        have := grownBy_sortedI (w := w) (g := g) (n := q) (os := #[]) (Lib.compact L ++ List.replicate (L.length - (Lib.compact L).length) 0).toArray
        rw [Go.Sort.grow_empty] at this
        exact this

theorem IntsAt.cellsAny {w : World} {oa : Option Addr} {L : List Int} {b off : Nat} {sp} (h : IntsAt w oa L) (e : oa = some ⟨b, off, sp⟩) (j : Nat) (u : Value) (hu : (L.map encI)[j]? = some u) : w.cell? ((⟨b, off, sp⟩ : Addr).add j) = some u := by
  have hj : j < L.length := by
    rcases Nat.lt_or_ge j L.length with h | h
    · exact h
    · rw [List.getElem?_eq_none (by simpa using h)] at hu; cases hu
  obtain ⟨b', off', e', _, hc⟩ := h.at_ (by omega)
  rw [e] at e'
  simp only [Option.some.injEq, Addr.mk.injEq] at e'
  obtain ⟨rfl, rfl, rfl⟩ := e'
  have ha : (⟨b, off, none⟩ : Addr).add j = ⟨b, off + j, none⟩ := by unfold Addr.add; split <;> simp_all
  rw [ha, hc j hj]
  rw [List.getElem?_map, nth_eq hj] at hu
  simpa [encI] using hu
theorem ones (L : List Int) : ∀ u ∈ L.map encI, u.oneCell' = true := by
  intro u hu
  obtain ⟨x, _, rfl⟩ := List.mem_map.1 hu
  rfl
theorem c_copyInts (oa) (cap : Nat) (L : List Int) (w : World) (hL : IntsAt w oa L) (hnil : oa = none → cap = 0) :
    Calls Try.prog 153 #[.slice oa L.length cap] w fun e w' => ∃ v, e = .returned v ∧ OwnI w' w.heap.size v L ∧ Below w.heap.size w w' := by
  obtain ⟨i0, hi, hz0, hz1, hz2⟩ := info_parts info_int
  have hn : L.length ≤ 1073741824 := hL.len
  have hb := (Below.refl w.heap.size w).alloc (Nat.le_refl _) (.cells #[] 3)
  have hI := OwnI.empty w w.heap.size (Nat.le_refl _)
  rcases oa with _ | ⟨b, off, sp⟩
  · have h0 : L.length = 0 := by
      rcases Nat.eq_zero_or_pos L.length with h | h
      · exact h
      · obtain ⟨b, off, e, _⟩ := hL.at_ h; cases e
    have hnl : L = [] := List.eq_nil_of_length_eq_zero h0
    have hcap : cap = 0 := hnil rfl
    subst hnl hcap
    go_enter Try.func153, Try.ntmps153
    go_wp2_with (first | (at_builtin; refine wpList_append_own_none rfl _ _ 69 rfl w.heap.size 3 i0 1 Try.underlying69 hi _ _ _ rfl hI rfl ?_))
    go_ret
    exact ⟨_, rfl, hI, hb⟩
  · have HB : Hid (∀ j u, (L.map encI)[j]? = some u → (w.alloc (.cells #[] 3)).cell? ((⟨b, off, sp⟩ : Addr).add j) = some u) := fun j u hu => (hL.keep hb).cellsAny rfl j u hu
    go_enter Try.func153, Try.ntmps153
    go_wp2_with (first | (at_builtin; refine wpList_append_own _ rfl _ _ 69 rfl w.heap.size 3 i0 (.int .i64 0) 1 8 Try.underlying69 hi hz0 hz1 hz2 rfl (by decide) _ _ _ rfl hI _ L.length _ (L.map encI) rfl (by simp) HB.out (ones L) (by unfold maxLen; simp; omega) (by simp; omega) (by simp) ?_; intro v' w1 hown hgrow _))
    have hI2 : OwnI w1 w.heap.size v' L := by unfold OwnI; simpa using hown
    have hb2 : Below w.heap.size w w1 := hb.grown hgrow (by simp) (fun g hg => (World.ownsRow.lt hI g hg).1)
    clear hown hgrow
    go_wp2
    go_ret
    exact ⟨_, rfl, hI2, hb2⟩
theorem c_distinct (oa) (cap : Nat) (L : List Int) (w : World) (hL : IntsAt w oa L) (hnil : oa = none → cap = 0) :
    Calls Try.prog 142 #[.slice oa L.length cap] w fun e w' => ∃ v, e = .returned v ∧ OwnI w' w.heap.size v (distinctF L) ∧ Below w.heap.size w w' := by
  have hr := hL.len
  have hs := sortI_length L
  go_enter Try.func142, Try.ntmps142
  go_wp2_with fail
  refine (c_copyInts _ _ _ _ hL hnil).mono ?_
  rintro e w1 ⟨v1, rfl, hI, hb⟩
  obtain ⟨o1, c1, rfl⟩ := hI.shape
  go_wp2_with fail
  refine (c_Sort _ _ _ _ _ hr hI).mono ?_
  rintro e w2 ⟨rfl, hS, hg⟩
  replace hb := hb.grown hg hb.size (fun g hk => (World.ownsRow.lt hI g hk).1)
  clear hg hI
  have HS : Hid ((sortI L).length = L.length) := hs
  have hS2 : OwnI w2 w.heap.size (.slice o1 (sortI L).length c1) (sortI L) := by rw [hs]; exact hS
  clear hs hS
  have hc := c_Compact o1 c1 w.heap.size (sortI L) w2 (by rw [HS.out]; exact hr) hS2
  rw [HS.out] at hc
  go_wp2_with fail
  refine hc.mono ?_
  rintro e w3 ⟨rfl, hC, hg⟩
  replace hb := hb.grown hg hb.size (fun g hk => (World.ownsRow.lt hS2 g (by rw [HS.out]; exact hk)).1)
  clear hg hc hS2
  go_wp2
  go_ret
  exact ⟨_, rfl, hC, hb⟩
end Go.Proofs.Ytkanbnbofoabeaa
