/- Contracts and lemmas for FnSearches, part 7 of 8. -/
import Derived.Test.YtcenndlbhgfdfaaGreatQFnSearches1
import Derived.Test.YtcenndlbhgfdfaaGreatQFnSearches2
import Derived.Test.YtcenndlbhgfdfaaGreatQFnSearches3
import Derived.Test.YtcenndlbhgfdfaaGreatQFnSearches4
import Derived.Test.YtcenndlbhgfdfaaGreatQFnSearches5
import Derived.Test.YtcenndlbhgfdfaaGreatQFnSearches6
namespace Go.Proofs.YtcenndlbhgfdfaaGreat
open Go.RowKit
set_option linter.unusedVariables false
set_option maxRecDepth 100000

theorem rows5 {n : Int} {R : List (List Int)} (ht : isTabF n R = true) : ∀ i, i < R.length → (row R i).length ≤ 5 := fun i hi => by
  obtain ⟨_, h5, _, hl⟩ := isTab_of ht
  have := hl i hi; omega
theorem ask_of {n : Int} {R : List (List Int)} {m x r : Int} (ht : isTabF n R = true) (hm : modeF m = true) (hx0 : 0 ≤ x) (hx : x < 2 ^ n.toNat) (hr0 : 0 ≤ r) (hr : r < n) : askF n R m x r = true := by
  obtain ⟨h1, h5, _, _⟩ := isTab_of ht
  unfold askF isDepF isAttr
  rw [ht, hm]
  simp only [Bool.and_eq_true, decide_eq_true_eq, Bool.and_self, Bool.true_and]
  exact ⟨⟨⟨h1, ⟨⟨⟨by omega, h5⟩, hx0⟩, hx⟩⟩, hr0⟩, hr⟩
theorem parts_bd {n x : Int} {R : List (List Int)} (ht : isTabF n R = true) (hx : x ∈ partsF n) : 0 ≤ x ∧ x < 2 ^ n.toNat ∧ St x := by
  obtain ⟨h1, h5, _, _⟩ := isTab_of ht
  have hp := pow_nat (n := n) (by omega) h5
  have := (partsF_mem (by omega) h5).1 hx
  have := hp.1; have := hp.2.1
  exact ⟨by omega, by omega, by omega, by omega⟩
theorem minDeps_mem {n : Int} {R : List (List Int)} {m : Int} {d : Int × Int} (h : d ∈ minDepsF n R m) : isTabF n R = true ∧ modeF m = true ∧ d.1 ∈ partsF n ∧ 0 ≤ d.2 ∧ d.2 < n ∧ isMinF n R m d.1 d.2 = true := by
  unfold minDepsF at h
  split at h
  · next hh =>
    rw [Bool.and_eq_true] at hh
    obtain ⟨h1, h5, _, _⟩ := isTab_of hh.1
    obtain ⟨N, rfl⟩ := Int.eq_ofNat_of_zero_le (show 0 ≤ n by omega)
    rw [Int.toNat_natCast, cols_same (by omega) (rows5 hh.1) N (Nat.le_refl _)] at h
    unfold colsG colG at h
    obtain ⟨r, hr, h⟩ := List.mem_flatMap.1 h
    obtain ⟨x, hx, rfl⟩ := List.mem_map.1 h
    obtain ⟨hx1, hx2⟩ := List.mem_filter.1 hx
    have hr := List.mem_range.1 hr
    obtain ⟨b0, b1, bs⟩ := parts_bd hh.1 hx1
    refine ⟨hh.1, hh.2, hx1, by show (0 : Int) ≤ (r : Int); omega, by show (r : Int) < (N : Int); omega, ?_⟩
    show isMinF N R m x r = true
    rw [isMin_l7 (ask_of hh.1 hh.2 b0 b1 (by omega) (by omega))]
    exact hx2
  · cases h
theorem minDeps_below {n : Int} {R : List (List Int)} {m x r : Int} (ht : isTabF n R = true) (hm : modeF m = true) (hx0 : 0 ≤ x) (hx : x < 2 ^ n.toNat) (hr0 : 0 ≤ r) (hr : r < n) (hn : hasc x r = false) (h : holdsF R m x r = true) : ∃ d ∈ minDepsF n R m, d.2 = r ∧ ins d.1 x = true := by
  obtain ⟨h1, h5, _, _⟩ := isTab_of ht
  obtain ⟨N, rfl⟩ := Int.eq_ofNat_of_zero_le (show 0 ≤ n by omega)
  obtain ⟨q, rfl⟩ := Int.eq_ofNat_of_zero_le hr0
  have hp := pow_nat (n := (N : Int)) (by omega) h5
  have hxm : x ∈ partsF (N : Int) := (partsF_mem (by omega) h5).2 ⟨hx0, by have := hp.1; omega⟩
  have hz : x ∈ someF (fun x r => holdsF R m x r) (partsF N) q := List.mem_filter.2 ⟨hxm, by simp [hn, h]⟩
  obtain ⟨y, hy, hi⟩ := low_below (by omega : N ≤ 5) hz
  refine ⟨(y, (q : Int)), ?_, rfl, hi⟩
  unfold minDepsF
  rw [ht, hm]
  simp only [Bool.and_self, if_true, Int.toNat_natCast]
  unfold colsF
  refine List.mem_flatMap.2 ⟨q, List.mem_range.2 (by omega), ?_⟩
  rw [colF_low (by omega : N ≤ 5)]
  have hy1 := (low_mem (by omega : N ≤ 5)).1 hy
  exact List.mem_map.2 ⟨y, List.mem_filter.2 ⟨(List.mem_filter.1 hy1.1).1, by unfold inB'; simpa using hy⟩, rfl⟩
/-- covered exactly if the dependency holds -/
theorem covered_law {n : Int} {R : List (List Int)} {m x r : Int} (ht : isTabF n R = true) (hm : modeF m = true) (hx0 : 0 ≤ x) (hx : x < 2 ^ n.toNat) (hr0 : 0 ≤ r) (hr : r < n) (hn : hasc x r = false) :
    ((minDepsF n R m).any fun d => (d.2 == r) && (bits BinOp.and .i64 d.1 x == d.1)) = holdsF R m x r := by
  obtain ⟨h1, h5, _, _⟩ := isTab_of ht
  have hp := pow_nat (n := n) (by omega) h5
  have sx : St x := ⟨hx0, by have := hp.1; have := hp.2.1; omega⟩
  rw [Bool.eq_iff_iff, List.any_eq_true]
  constructor
  · rintro ⟨d, hd, h⟩
    rw [Bool.and_eq_true] at h
    obtain ⟨_, _, hm1, _, _, hmin⟩ := minDeps_mem hd
    obtain ⟨_, _, sd⟩ := parts_bd ht hm1
    have e : d.2 = r := by simpa using h.1
    have hi : ins d.1 x = true := by rw [← insA_eq sd sx]; exact h.2
    unfold isMinF at hmin
    simp only [Bool.and_eq_true] at hmin
    rw [← e]
    exact holds_up (rows5 ht) sd sx hi hmin.2.1
  · intro h
    obtain ⟨d, hd, e, hi⟩ := minDeps_below ht hm hx0 hx hr0 hr hn h
    obtain ⟨_, _, hm1, _, _, _⟩ := minDeps_mem hd
    obtain ⟨_, _, sd⟩ := parts_bd ht hm1
    exact ⟨d, hd, by rw [Bool.and_eq_true]; exact ⟨by simp [e], by have := insA_eq sd sx; rw [hi] at this; exact this⟩⟩
theorem exists_max {G : List Int} (hG : ∀ x ∈ G, St x) : ∀ (k : Nat) (z : Int), 5 - card z ≤ k → z ∈ G → ∃ x ∈ G, maxB G x = true ∧ ins z x = true
  | k, z, hk, hz => by
    by_cases h : maxB G z = true
    · exact ⟨z, hz, h, ins_refl (hG z hz)⟩
    · have h' : maxB G z = false := by simpa using h
      unfold maxB at h'
      rw [List.all_eq_false] at h'
      obtain ⟨y, hy, hyz⟩ := h'
      simp only [Bool.or_eq_true, beq_iff_eq, Bool.not_eq_true', not_or, Bool.not_eq_false] at hyz
      have hlt := card_lt (hG z hz) (hG y hy) hyz.2 hyz.1
      have := card_le y
      match k with
      | 0 => omega
      | k + 1 =>
        obtain ⟨x, hx, hm, hi⟩ := exists_max hG k y (by omega) hy
        exact ⟨x, hx, hm, ins_trans (hG z hz) (hG y hy) (hG x hx) hyz.2 hi⟩
/-- inside the border exactly if the dependency does not hold -/
theorem inside_law {n : Int} {R : List (List Int)} {m x r : Int} (ht : isTabF n R = true) (hm : modeF m = true) (hx0 : 0 ≤ x) (hx : x < 2 ^ n.toNat) (hr0 : 0 ≤ r) (hr : r < n) (hn : hasc x r = false) :
    ((bordF n R m r).any fun b => bits BinOp.and .i64 b x == x) = !holdsF R m x r := by
  obtain ⟨h1, h5, _, _⟩ := isTab_of ht
  have hp := pow_nat (n := n) (by omega) h5
  have sx : St x := ⟨hx0, by have := hp.1; have := hp.2.1; omega⟩
  have hok : bordOk n R m r = true := by unfold bordOk; rw [ht, hm]; simp; omega
  have hG : ∀ y ∈ flt (bordP R m r) (2 ^ n.toNat), St y := fun y hy => by
    have := (flt_mem.1 hy).1
    exact ⟨this.1, by have := hp.2.1; omega⟩
  have hS : setsF (flt (bordP R m r) (2 ^ n.toNat)) = true := by
    unfold setsF
    rw [List.all_eq_true]
    exact fun y hy => decide_eq_true (hG y hy)
  have hl : (flt (bordP R m r) (2 ^ n.toNat)).length ≤ 100 := Nat.le_trans (flt_le _ _) (by omega)
  unfold bordF
  rw [hok]
  simp only [if_true]
  rw [maxF_sets hS hl, Bool.eq_iff_iff, List.any_eq_true]
  have swap : ∀ b, St b → (bits BinOp.and .i64 b x == x) = ins x b := fun b sb => by
    rw [← insA_eq sx sb]
    unfold insA
    obtain ⟨p, hp, rfl⟩ := st_nat sb; obtain ⟨q, hq, rfl⟩ := st_nat sx
    have h : ∀ p < 32, ∀ q < 32, (bits BinOp.and .i64 ((p : Nat) : Int) ((q : Nat) : Int) == ((q : Nat) : Int)) = (bits BinOp.and .i64 ((q : Nat) : Int) ((p : Nat) : Int) == ((q : Nat) : Int)) := by decide +kernel
    exact h p hp q hq
  constructor
  · rintro ⟨b, hb, h⟩
    obtain ⟨⟨b0, b1⟩, hb2⟩ := flt_mem.1 hb
    rw [Bool.and_eq_true] at hb2
    have hm1 : b ∈ flt (bordP R m r) (2 ^ n.toNat) := by have := hb2.1; unfold inB' at this; simpa using this
    have sb := hG b hm1
    rw [swap b sb] at h
    have hb3 := (flt_mem.1 hm1).2
    unfold bordP at hb3
    rw [Bool.and_eq_true] at hb3
    cases hh : holdsF R m x r
    · rfl
    · have := holds_up (rows5 ht) sx sb h hh
      rw [this] at hb3; cases hb3.2
  · intro h
    have hh : holdsF R m x r = false := by simpa using h
    have hz : x ∈ flt (bordP R m r) (2 ^ n.toNat) := flt_mem.2 ⟨⟨hx0, by have := hp.1; omega⟩, by unfold bordP; rw [hn, hh]; rfl⟩
    obtain ⟨b, hb, hmx, hi⟩ := exists_max hG (5 - card x) x (Nat.le_refl _) hz
    have sb := hG b hb
    exact ⟨b, flt_mem.2 ⟨⟨sb.1, sb.2⟩, by rw [Bool.and_eq_true]; exact ⟨by unfold inB'; simpa using hb, hmx⟩⟩, by rw [swap b sb]; exact hi⟩
theorem appr_rows {n : Int} {R : List (List Int)} {m q : Int} {d : Int × Int} (h : d ∈ apprF n R m q) : rrF n R m d.1 d.2 ≤ q := by
  unfold apprF at h
  split at h
  · next hh =>
    simp only [Bool.and_eq_true, decide_eq_true_eq] at hh
    obtain ⟨h1, h5, _, _⟩ := isTab_of hh.1.1
    obtain ⟨N, rfl⟩ := Int.eq_ofNat_of_zero_le (show 0 ≤ n by omega)
    unfold colsF at h
    obtain ⟨r, hr, h⟩ := List.mem_flatMap.1 h
    rw [colF_low (by omega : N ≤ 5)] at h
    obtain ⟨x, hx, rfl⟩ := List.mem_map.1 h
    have hx2 := (List.mem_filter.1 hx).2
    have hx3 : x ∈ lowF (appOk N R m q) (partsF N) r := by unfold inB' at hx2; simpa using hx2
    have hx4 := ((low_mem (by omega : N ≤ 5)).1 hx3).1
    have := (List.mem_filter.1 hx4).2
    rw [Bool.and_eq_true] at this
    have := this.2
    unfold appOk at this
    exact of_decide_eq_true this
  · cases h
end Go.Proofs.YtcenndlbhgfdfaaGreat
namespace Go.Proofs.YtcenndlbhgfdfaaGreat
open Go.RowKit
set_option linter.unusedVariables false
set_option maxRecDepth 100000

def hp (R : List (List Int)) (m : Int) : Int → Int → Bool := fun x r => holdsF R m x r
theorem div_same {N k r : Nat} (h1 : 1 ≤ N) (h5 : N ≤ 5) (hr : r < N) (hne : r ≠ k % N) : (k + 1 + (N - 1 - r)) / N = (k + (N - 1 - r)) / N := by
  have h : N = 1 ∨ N = 2 ∨ N = 3 ∨ N = 4 ∨ N = 5 := by omega
  rcases h with rfl | rfl | rfl | rfl | rfl <;> omega
theorem div_hit {N k : Nat} (h1 : 1 ≤ N) (h5 : N ≤ 5) : (k + 1 + (N - 1 - k % N)) / N = k / N + 1 ∧ (k + (N - 1 - k % N)) / N = k / N := by
  have h : N = 1 ∨ N = 2 ∨ N = 3 ∨ N = 4 ∨ N = 5 := by omega
  rcases h with rfl | rfl | rfl | rfl | rfl <;> omega
theorem filter_cov {F : List (Int × Int)} {x r : Int} : ∀ {T : List Int}, (F.filter fun o => o.2 == r) = T.map (fun x => (x, r)) → covS F x r = anyIns T x := fun {T} h => by
  have e : covS F x r = (F.filter fun o => o.2 == r).any fun o => ins o.1 x := by
    unfold covS
    rw [List.any_filter]
  rw [e, h, List.any_map]
  rfl
theorem rep_col {R : List (List Int)} {m : Int} {N : Nat} (h1 : 1 ≤ N) (h5 : N ≤ 5) : ∀ k, k ≤ N * 2 ^ N → ∀ r : Nat, r < N →
    ((repF R m N k).1.filter fun o => o.2 == (r : Int)) = colF (hp R m) ((partsF N).take ((k + (N - 1 - r)) / N)) r
  | 0, _, r, hr => by
    have e : (0 + (N - 1 - r)) / N = 0 := Nat.div_eq_of_lt (by omega)
    rw [e]; rfl
  | k + 1, hk, r, hr => by
    have ih := rep_col (R := R) (m := m) h1 h5 k (by omega)
    obtain ⟨hlt, _, _, _, _⟩ := cand_ok h5 h1 (show k < N * 2 ^ N by omega)
    obtain ⟨d1, d2⟩ := div_hit (k := k) h1 h5
    have hmod : k % N < N := Nat.mod_lt _ (by omega)
    have ih1 := ih (k % N) hmod
    rw [d2] at ih1
    have hc : covS (repF R m N k).1 (candF N k).1 (candF N k).2 = anyIns (takenF (hp R m) ((k % N : Nat) : Int) ((partsF N).take (k / N))) (nth (partsF N) (k / N)) := filter_cov ih1
    show ((stepF R m N k (repF R m N k)).1.filter fun o => o.2 == (r : Int)) = _
    unfold stepF
    rw [hc]
    show ((if hasc (nth (partsF N) (k / N)) ((k % N : Nat) : Int) || anyIns (takenF (hp R m) ((k % N : Nat) : Int) ((partsF N).take (k / N))) (nth (partsF N) (k / N)) then repF R m N k else (if holdsF R m (nth (partsF N) (k / N)) ((k % N : Nat) : Int) then (repF R m N k).1 ++ [(nth (partsF N) (k / N), ((k % N : Nat) : Int))] else (repF R m N k).1, (repF R m N k).2 + 1)).1.filter fun o => o.2 == (r : Int)) = _
    by_cases hrk : r = k % N
    · subst hrk
      rw [d1]
      unfold colF
      rw [taken_succ (hp R m) _ hlt]
      unfold stepM
      unfold colF at ih1
      cases hh : hasc (nth (partsF N) (k / N)) ((k % N : Nat) : Int)
      · cases ha : anyIns (takenF (hp R m) ((k % N : Nat) : Int) ((partsF N).take (k / N))) (nth (partsF N) (k / N))
        · cases hv : holdsF R m (nth (partsF N) (k / N)) ((k % N : Nat) : Int)
          · have e : hp R m (nth (partsF N) (k / N)) ((k % N : Nat) : Int) = false := hv
            simp only [Bool.or_self, Bool.false_eq_true, if_false, e, Bool.and_false]
            exact ih1
          · have e : hp R m (nth (partsF N) (k / N)) ((k % N : Nat) : Int) = true := hv
            simp only [Bool.or_self, Bool.false_eq_true, if_false, if_true, e, Bool.and_true, Bool.not_false, List.filter_append, List.map_append, ih1]
            simp
        · simp only [Bool.or_true, if_true, Bool.not_true, Bool.and_false, Bool.false_and, Bool.false_eq_true, if_false]
          exact ih1
      · simp only [Bool.true_or, if_true, Bool.not_true, Bool.false_and, Bool.false_eq_true, if_false]
        exact ih1
    · rw [div_same h1 h5 hr hrk, ← ih r hr]
      split
      · rfl
      · split
        · rw [List.filter_append]
          have : (((k % N : Nat) : Int) == (r : Int)) = false := by
            rw [beq_eq_false_iff_ne]; omega
          simp only [List.filter_cons, this, List.filter_nil, List.append_nil, Bool.false_eq_true, if_false]
        · rfl
theorem len_cols : ∀ (N : Nat) (F : List (Int × Int)), (∀ o ∈ F, 0 ≤ o.2 ∧ o.2 < N) → F.length = ((List.range N).flatMap fun (r : Nat) => F.filter fun o => o.2 == (r : Int)).length
  | 0, F, h => by
    cases F with
    | nil => rfl
    | cons o t => have := h o (List.mem_cons_self ..); omega
  | N + 1, F, h => by
    rw [List.range_succ, List.flatMap_append, List.length_append]
    have ih := len_cols N (F.filter fun o => !(o.2 == (N : Int))) (fun o ho => by
      obtain ⟨h1, h2⟩ := List.mem_filter.1 ho
      have := h o h1
      have h3 : o.2 ≠ (N : Int) := by simpa using h2
      omega)
    have e : ((List.range N).flatMap fun (r : Nat) => (F.filter fun o => !(o.2 == (N : Int))).filter fun o => o.2 == (r : Int)) = ((List.range N).flatMap fun (r : Nat) => F.filter fun o => o.2 == (r : Int)) := by
      unfold List.flatMap
      congr 1
      refine List.map_congr_left fun r hr => ?_
      have hr := List.mem_range.1 hr
      rw [List.filter_filter]
      refine List.filter_congr fun o _ => ?_
      cases h : (o.2 == (r : Int))
      · rfl
      · have h1 : o.2 = (r : Int) := by simpa using h
        have : (o.2 == (N : Int)) = false := by rw [beq_eq_false_iff_ne]; omega
        rw [this]; rfl
    rw [e] at ih
    rw [← ih]
    have hs : ∀ (G : List (Int × Int)), G.length = (G.filter fun o => !(o.2 == (N : Int))).length + (G.filter fun o => o.2 == (N : Int)).length := by
      intro G
      induction G with
      | nil => rfl
      | cons o t ih => cases h : (o.2 == (N : Int)) <;> simp [List.filter_cons, h] <;> omega
    have := hs F
    simpa using this
theorem taken_mono (p : Int → Int → Bool) (r : Int) (L : List Int) (i : Nat) : ∀ x ∈ takenF p r (L.take i), x ∈ takenF p r L := by
  have hstep : ∀ (M T : List Int), ∀ x ∈ T, x ∈ M.foldl (stepM p r) T := by
    intro M
    induction M with
    | nil => intro T x hx; exact hx
    | cons y t ih =>
      intro T x hx
      refine ih _ x ?_
      unfold stepM
      split
      · exact List.mem_append_left _ hx
      · exact hx
  intro x hx
  have e : takenF p r L = (L.drop i).foldl (stepM p r) (takenF p r (L.take i)) := by
    unfold takenF
    rw [← List.foldl_append, List.take_append_drop]
  rw [e]
  exact hstep _ _ x hx
theorem minDeps_cols {N : Nat} {R : List (List Int)} {m : Int} (ht : isTabF N R = true) (hm : modeF m = true) : minDepsF N R m = colsF (hp R m) (partsF N) N := by
  unfold minDepsF
  rw [ht, hm]
  simp only [Bool.and_self, if_true, Int.toNat_natCast]
  rfl
/-- what a search has found are minimal dependencies -/
theorem rep_min {N : Nat} {R : List (List Int)} {m : Int} (h1 : 1 ≤ N) (h5 : N ≤ 5) (ht : isTabF N R = true) (hm : modeF m = true) {k : Nat} (hk : k ≤ N * 2 ^ N) {o : Int × Int} (ho : o ∈ (repF R m N k).1) : o ∈ minDepsF N R m := by
  rw [minDeps_cols ht hm]
  have hb : ∀ k, k ≤ N * 2 ^ N → ∀ o ∈ (repF R m N k).1, 0 ≤ o.2 ∧ o.2 < N := by
    intro k
    induction k with
    | zero => intro _ o ho; cases ho
    | succ k ih =>
      intro hk o ho
      have ih := ih (by omega)
      have ho : o ∈ (stepF R m N k (repF R m N k)).1 := ho
      unfold stepF at ho
      split at ho
      · exact ih o ho
      · split at ho
        · rcases List.mem_append.1 ho with h | h
          · exact ih o h
          · obtain ⟨_, _, hc, _, hlt⟩ := cand_ok h5 h1 (show k < N * 2 ^ N by omega)
            rw [List.mem_singleton.1 h]
            exact ⟨hc.1, hlt⟩
        · exact ih o ho
  obtain ⟨b0, b1⟩ := hb k hk o ho
  obtain ⟨r, hr⟩ := Int.eq_ofNat_of_zero_le b0
  have hrN : r < N := by omega
  have hf : o ∈ (repF R m N k).1.filter fun o => o.2 == (r : Int) := List.mem_filter.2 ⟨ho, by simp [hr]⟩
  rw [rep_col h1 h5 k hk r hrN] at hf
  unfold colF at hf
  obtain ⟨x, hx, e⟩ := List.mem_map.1 hf
  refine List.mem_flatMap.2 ⟨r, List.mem_range.2 hrN, ?_⟩
  unfold colF
  exact List.mem_map.2 ⟨x, taken_mono _ _ _ _ x hx, e⟩
theorem rep_bd {N : Nat} {R : List (List Int)} {m : Int} (h1 : 1 ≤ N) (h5 : N ≤ 5) (ht : isTabF N R = true) (hm : modeF m = true) {k : Nat} (hk : k ≤ N * 2 ^ N) : ∀ o ∈ (repF R m N k).1, 0 ≤ o.2 ∧ o.2 < N := fun o ho => by
  obtain ⟨_, _, _, h4, h6, _⟩ := minDeps_mem (rep_min h1 h5 ht hm hk ho)
  exact ⟨h4, h6⟩
/-- at the end it has found as many as there are -/
theorem rep_len {N : Nat} {R : List (List Int)} {m : Int} (h1 : 1 ≤ N) (h5 : N ≤ 5) (ht : isTabF N R = true) (hm : modeF m = true) : (repF R m N (N * 2 ^ N)).1.length = (minDepsF N R m).length := by
  rw [len_cols N _ (rep_bd h1 h5 ht hm (Nat.le_refl _)), minDeps_cols ht hm]
  unfold colsF
  congr 1
  unfold List.flatMap
  congr 1
  refine List.map_congr_left fun r hr => ?_
  have hr := List.mem_range.1 hr
  rw [rep_col h1 h5 _ (Nat.le_refl _) r hr]
  have e : (N * 2 ^ N + (N - 1 - r)) / N = 2 ^ N := by
    rw [Nat.mul_add_div (by omega), Nat.div_eq_of_lt (by omega)]; rfl
  rw [e, ← parts_full h5, List.take_length]
theorem rep_tests {R : List (List Int)} {m : Int} {N : Nat} (k : Nat) : (repF R m N k).2 ≤ (repF R m N (k + 1)).2 ∧ (repF R m N (k + 1)).2 ≤ (repF R m N k).2 + 1 := by
  show (repF R m N k).2 ≤ (stepF R m N k (repF R m N k)).2 ∧ (stepF R m N k (repF R m N k)).2 ≤ (repF R m N k).2 + 1
  unfold stepF
  split
  · exact ⟨Int.le_refl _, by omega⟩
  · exact ⟨by show _ ≤ (repF R m N k).2 + 1; omega, Int.le_refl _⟩
/-- with enough tests it goes to the end -/
theorem stop_all {R : List (List Int)} {m : Int} {N M : Nat} {b t0 : Int} (h : ∀ k, k ≤ M → (repF R m N k).2 - t0 < b) : ∀ f k, M = k + f → stopAt R m N M b t0 f k = M
  | 0, k, e => e.symm
  | f + 1, k, e => by
    unfold stopAt
    rw [decide_eq_true (show k < M by omega), decide_eq_true (h k (by omega))]
    simp only [Bool.and_self, if_true]
    exact stop_all h f (k + 1) (by omega)
/-- no more tests than are allowed -/
theorem stop_tests {R : List (List Int)} {m : Int} {N M : Nat} {b t0 : Int} : ∀ f k, (repF R m N k).2 - t0 ≤ b → (repF R m N (stopAt R m N M b t0 f k)).2 - t0 ≤ b
  | 0, k, h => h
  | f + 1, k, h => by
    unfold stopAt
    split
    · next hh =>
      simp only [Bool.and_eq_true, decide_eq_true_eq] at hh
      have := (rep_tests (R := R) (m := m) (N := N) k).2
      exact stop_tests f (k + 1) (by omega)
    · exact h
def endSr (A : Sr) : Sr := ⟨A.n, A.R, A.m, cntF A.n, (repF A.R A.m A.n.toNat (A.n.toNat * 2 ^ A.n.toNat)).1, (repF A.R A.m A.n.toNat (A.n.toNat * 2 ^ A.n.toNat)).2⟩
theorem isSr_rep {n m : Int} {R : List (List Int)} {N k : Nat} (e : n = N) (ht : isTabF n R = true) (hm : modeF m = true) (hk : k ≤ N * 2 ^ N) : isSrF ⟨n, R, m, (k : Nat), (repF R m N k).1, (repF R m N k).2⟩ = true := by
  unfold isSrF cntF
  subst e
  simp only [ht, hm, Int.toNat_natCast, Bool.and_eq_true, decide_eq_true_eq, Bool.and_self, true_and, and_true]
  exact ⟨by omega, by omega⟩
theorem run_all {A : Sr} (h : isSrF A = true) : runSr A 1000 = endSr A := by
  obtain ⟨N, K, e1, e2, h1, h5, hK, ht, hm, hrep⟩ := isSr_of h
  have hc := count_le h5
  have hst : stopF A 1000 = N * 2 ^ N := by
    unfold stopF
    rw [e1, e2, Int.toNat_natCast, Int.toNat_natCast]
    refine stop_all (fun k hk => ?_) _ _ (by omega)
    obtain ⟨_, _, _, i4⟩ := rep_ok (R := A.R) (m := A.m) h5 h1 k hk
    obtain ⟨_, _, i3, _⟩ := rep_ok (R := A.R) (m := A.m) h5 h1 K hK
    rw [hrep] at i3
    have i3 : 0 ≤ A.t := i3
    omega
  unfold runSr endSr cntF
  rw [h, hst]
  simp only [if_true, e1, Int.toNat_natCast]
theorem isSr_run {A : Sr} (h : isSrF A = true) (b : Int) : isSrF (runSr A b) = true := by
  obtain ⟨N, K, e1, e2, h1, h5, hK, ht, hm, hrep⟩ := isSr_of h
  have hle : stopF A b ≤ N * 2 ^ N := by
    unfold stopF
    rw [e1, e2, Int.toNat_natCast, Int.toNat_natCast]
    exact (stopAt_le _ _ hK).1
  unfold runSr
  rw [h]
  simp only [if_true]
  have e : A.n.toNat = N := by omega
  rw [e]
  exact isSr_rep e1 (by rw [e1]; exact ht) hm hle
theorem run_run {A : Sr} (h : isSrF A = true) (b : Int) : runSr (runSr A b) 1000 = endSr A := by
  rw [run_all (isSr_run h b)]
  unfold runSr
  rw [h]
  rfl
theorem end_done {A : Sr} (h : isSrF A = true) : isSrdF (endSr A) = true := by
  obtain ⟨N, K, e1, e2, h1, h5, hK, ht, hm, hrep⟩ := isSr_of h
  have e : A.n.toNat = N := by omega
  unfold isSrdF
  have := isSr_rep (k := N * 2 ^ N) e1 (show isTabF A.n A.R = true by rw [e1]; exact ht) hm (Nat.le_refl _)
  unfold endSr
  rw [e]
  unfold cntF
  rw [e, this]
  simp
theorem run_tests {A : Sr} (h : isSrF A = true) {b : Int} (hb : 0 ≤ b) : (runSr A b).t - A.t ≤ b := by
  obtain ⟨N, K, e1, e2, h1, h5, hK, ht, hm, hrep⟩ := isSr_of h
  have ht0 : (repF A.R A.m N K).2 = A.t := by rw [hrep]
  unfold runSr
  rw [h]
  simp only [if_true]
  unfold stopF
  rw [e1, e2, Int.toNat_natCast, Int.toNat_natCast]
  exact stop_tests _ _ (by rw [ht0]; omega)
theorem run_min {A : Sr} (h : isSrF A = true) (b : Int) : ∀ o ∈ (runSr A b).F, o ∈ minDepsF A.n A.R A.m := fun o ho => by
  obtain ⟨N, K, e1, e2, h1, h5, hK, ht, hm, hrep⟩ := isSr_of h
  unfold runSr at ho
  rw [h] at ho
  simp only [if_true] at ho
  have e : A.n.toNat = N := by omega
  rw [e] at ho
  rw [e1]
  refine rep_min h1 h5 ht hm ?_ ho
  unfold stopF
  rw [e1, e2, Int.toNat_natCast, Int.toNat_natCast]
  exact (stopAt_le _ _ hK).1
theorem end_min {A : Sr} (h : isSrF A = true) : (∀ o ∈ (endSr A).F, o ∈ minDepsF A.n A.R A.m) ∧ (endSr A).F.length = (minDepsF A.n A.R A.m).length := by
  obtain ⟨N, K, e1, e2, h1, h5, hK, ht, hm, hrep⟩ := isSr_of h
  have e : A.n.toNat = N := by omega
  unfold endSr
  rw [e, e1]
  exact ⟨fun o ho => rep_min h1 h5 ht hm (Nat.le_refl _) ho, rep_len h1 h5 ht hm⟩
end Go.Proofs.YtcenndlbhgfdfaaGreat
namespace Go.Proofs.YtcenndlbhgfdfaaGreat
open Go.RowKit
set_option linter.unusedVariables false
set_option maxRecDepth 100000

def okSr (A : Sr) : Bool := isSrF A && !(A.a == cntF A.n)
def stSr (A : Sr) : Sr := if okSr A then ⟨A.n, A.R, A.m, A.a + 1, (stepF A.R A.m A.n.toNat A.a.toNat (A.F, A.t)).1, (stepF A.R A.m A.n.toNat A.a.toNat (A.F, A.t)).2⟩ else A
theorem candAt_ok {A : Sr} {l r : Int} {b : Bool} (h : candAtF A = (l, r, b)) : b = okSr A := by
  unfold candAtF at h; unfold okSr
  cases e : (isSrF A && !(A.a == cntF A.n)) <;> rw [e] at h <;> cases h <;> rfl
theorem ok_of {A : Sr} (h : isSrF A = true) (h' : isSrdF A = false) : okSr A = true := by
  unfold isSrdF at h'; unfold okSr; rw [h] at h' ⊢; simpa using h'
theorem no_of {A : Sr} (h' : isSrdF A = true) : okSr A = false := by
  unfold isSrdF at h'; unfold okSr
  rw [Bool.and_eq_true] at h'; rw [h'.1, h'.2]; rfl
theorem st_ok {A : Sr} (h : okSr A = true) : ∃ N K : Nat, A.n = N ∧ A.a = K ∧ 1 ≤ N ∧ N ≤ 5 ∧ K < N * 2 ^ N ∧ isTabF N A.R = true ∧ modeF A.m = true ∧ repF A.R A.m N K = (A.F, A.t) := by
  unfold okSr at h
  rw [Bool.and_eq_true] at h
  obtain ⟨h1, h2⟩ := h
  obtain ⟨N, K, e1, e2, b1, b2, b3⟩ := isSr_at h1 (by simpa using h2)
  obtain ⟨N', K', e1', e2', _, _, _, h3, h4, h5⟩ := isSr_of h1
  obtain rfl : N' = N := by omega
  obtain rfl : K' = K := by omega
  exact ⟨N', K', e1, e2, b1, b2, b3, h3, h4, h5⟩
theorem st_sizes {A : Sr} (h1 : A.R.length ≤ Room) (h4 : A.F.length ≤ Room) (h2 : (sumL A.R A.R.length : Int) ≤ 1048576) (h3 : ∀ j, j < A.R.length → (row A.R j).length ≤ Room) : (stSr A).R.length ≤ Room ∧ (stSr A).F.length ≤ Room ∧ (sumL (stSr A).R (stSr A).R.length : Int) ≤ 1048576 ∧ (∀ j, j < (stSr A).R.length → (row (stSr A).R j).length ≤ Room) ∧ True := by
  unfold stSr
  cases hs : okSr A
  · exact ⟨h1, h4, h2, h3, trivial⟩
  · obtain ⟨N, K, hn, ha, hN1, hN5, hK, _, _, hr⟩ := st_ok hs
    refine ⟨h1, ?_, h2, h3, trivial⟩
    have := (rep_ok (R := A.R) (m := A.m) hN5 hN1 (K + 1) hK).2.1
    have e : repF A.R A.m N (K + 1) = stepF A.R A.m N K (A.F, A.t) := by show stepF A.R A.m N K (repF A.R A.m N K) = _; rw [hr]
    rw [e] at this
    have := count_le hN5
    simp only [if_true, hn, ha, Int.toNat_natCast]
    unfold Room; omega
set_option maxHeartbeats 6400000 in
theorem c_StepSearch (A : Sr) (oa fa) (ca fca : Nat) (w : World) (hR : RowsC w oa A.R) (hD : DepsAt w fa A.F) (hnil : fa = none → fca = 0) :
    SrRes 12 #[.agg #[.int .i64 A.n, .slice oa A.R.length ca, .int .i64 A.m, .int .i64 A.a, .slice fa A.F.length fca, .int .i64 A.t]] w (stSr A) (fun v => .tuple #[v, .bool (okSr A)]) := by
  unfold SrRes
  have H := fun w' h1 h2 => c_copySearch A oa fa ca fca w' h1 h2 hnil
  obtain ⟨l9, r9, b9, h9⟩ : ∃ l r b, candAtF A = (l, r, b) := ⟨_, _, _, rfl⟩
  have HC := fun w' h1 h2 => c_CandidateAt A oa fa ca fca w' h1 h2 l9 r9 b9 h9
  obtain ⟨k9, hok⟩ : ∃ k, okSr A = k := ⟨_, rfl⟩
  obtain rfl : b9 = k9 := by rw [← hok]; exact candAt_ok h9
  clear h9
  have HV0 : Hid (okSr A = false → stSr A = A) := fun h => by unfold stSr; rw [h]; rfl
  have HV1 : Hid (okSr A = true → stSr A = ⟨A.n, A.R, A.m, A.a + 1, (stepF A.R A.m A.n.toNat A.a.toNat (A.F, A.t)).1, (stepF A.R A.m A.n.toNat A.a.toNat (A.F, A.t)).2⟩) := fun h => by unfold stSr; rw [h]; rfl
  rw [hok]
  have HK9 : Hid (okSr A = b9) := hok
  clear hok
  unfold SrRes at H
  obtain ⟨n, R, m, a, F, t⟩ := A
  dsimp only at *
  have hb := bel2 w (.cells #[.int .i64 n, .slice oa R.length ca, .int .i64 m, .int .i64 a, .slice fa F.length fca, .int .i64 t] 29) (.cells srZ 29)
  have kA := (Blk.new w #[.int .i64 n, .slice oa R.length ca, .int .i64 m, .int .i64 a, .slice fa F.length fca, .int .i64 t] 29).alloc (.cells srZ 29)
  have kZ := Blk.new (w.alloc (.cells #[.int .i64 n, .slice oa R.length ca, .int .i64 m, .int .i64 a, .slice fa F.length fca, .int .i64 t] 29)) srZ 29
  simp only [World.size_alloc] at kZ
  unfold srZ at hb kA kZ
  have s0 := kA.cell 0 (.int .i64 n) rfl
  have s1 := kA.cell 1 (.slice oa R.length ca) rfl
  have s2 := kA.cell 2 (.int .i64 m) rfl
  have s3 := kA.cell 3 (.int .i64 a) rfl
  have s4 := kA.cell 4 (.slice fa F.length fca) rfl
  have s5 := kA.cell 5 (.int .i64 t) rfl
  go_enter Tryz.func12, Tryz.ntmps12
  go_wp2_with fail
  refine Calls.mono (HC _ (hR.keep hb) (hD.keep hb)) ?_
  clear HC
  rintro e w1 ⟨rfl, hbn⟩
  replace kA := kA.keep hbn
  replace kZ := kZ.keep hbn
  replace hb := bel_to hb hbn
  clear hbn s0 s1 s2 s3 s4 s5
  have hba := (Below.refl w1.heap.size w1).alloc (Nat.le_refl _) (.cells #[.int .i64 l9, .int .i64 r9] 38)
  replace kA := kA.keep hba
  replace kZ := kZ.keep hba
  replace hb := bel_to hb hba
  clear hba
  have s0 := kA.cell 0 (.int .i64 n) rfl
  have s1 := kA.cell 1 (.slice oa R.length ca) rfl
  have s2 := kA.cell 2 (.int .i64 m) rfl
  have s3 := kA.cell 3 (.int .i64 a) rfl
  have s4 := kA.cell 4 (.slice fa F.length fca) rfl
  have s5 := kA.cell 5 (.int .i64 t) rfl
  have kd := Blk.new w1 #[.int .i64 l9, .int .i64 r9] 38
  go_upto_region 2 with fail
  generalize w1.alloc (.cells #[.int .i64 l9, .int .i64 r9] 38) = w2 at *
  have hs1 : w.heap.size + 1 < w2.heap.size := kZ.lt
  clear kd
  cases b9
  · have HVV := HV0.out HK9.out
    go_wp2_with fail
    refine (H _ (hR.keep hb) (hD.keep hb)).mono ?_
    clear H
    rintro e w3 ⟨o, c, fo, fc, xs, rfl, hO, hF, ap, hbn⟩
    replace kA := kA.keep hbn
    replace kZ := kZ.keep hbn
    replace hb := bel_to hb hbn
    clear hbn s0 s1 s2 s3 s4 s5
    have z0 := kZ.cell 0 (.int .i64 0) rfl
    have z1 := kZ.cell 1 (.slice none 0 0) rfl
    have z2 := kZ.cell 2 (.int .i64 0) rfl
    have z3 := kZ.cell 3 (.int .i64 0) rfl
    have z4 := kZ.cell 4 (.slice none 0 0) rfl
    have z5 := kZ.cell 5 (.int .i64 0) rfl
    have g0 := kZ.free 0
    have g1 := kZ.free 1
    have g2 := kZ.free 2
    have g3 := kZ.free 3
    have g4 := kZ.free 4
    have g5 := kZ.free 5
    have k6 := kZ.set6 (.int .i64 n) (.slice o R.length c) (.int .i64 m) (.int .i64 a) (.slice fo F.length fc) (.int .i64 t)
    unfold set6 at k6
    have q0 := k6.cell 0 _ rfl
    have q1 := k6.cell 1 _ rfl
    have q2 := k6.cell 2 _ rfl
    have q3 := k6.cell 3 _ rfl
    have q4 := k6.cell 4 _ rfl
    have q5 := k6.cell 5 _ rfl
    go_wp2
    refine bodyPost_ret (v := .tuple #[.agg #[.int .i64 n, .slice o R.length c, .int .i64 m, .int .i64 a, .slice fo F.length fc, .int .i64 t], .bool false]) (by simp only [results, Tryz.results12]; simp [go_sem, q0, q1, q2, q3, q4, q5]) rfl ?_
    rw [HVV]
    exact ⟨o, c, fo, fc, xs, rfl, (hO.far6 (show w.heap.size + 1 < _ by first | exact hs1 | (have := hs1; omega)) _ _ _ _ _ _).based (by have := hs1; omega), (OwnD.set6 hF (fun e => by have := (World.ownsRow.lt hF _ e).1; have := hs1; omega) _ _ _ _ _ _).based (by have := hs1; omega), ap, bel_set6 hb (Nat.le_succ _) _ _ _ _ _ _⟩
  · have hk9 := HK9.out
    obtain ⟨N, K, hnN, haK, hN1, hN5, hKM, ht, hm, hrep⟩ := st_ok HK9.out
    dsimp only at hnN haK ht hm hrep
    subst hnN haK
    have HVV : Hid (stSr ⟨(N : Int), R, m, (K : Int), F, t⟩ = ⟨N, R, m, (K : Int) + 1, (stepF R m N K (F, t)).1, (stepF R m N K (F, t)).2⟩) := by show _ = _; rw [HV1.out HK9.out]; simp only [Int.toNat_natCast]
    have hrk := rep_ok (R := R) (m := m) hN5 hN1 K (Nat.le_of_lt hKM)
    rw [hrep] at hrk
    dsimp only at hrk
    obtain ⟨i1, i2, i3, i4⟩ := hrk
    have hc160 := count_le hN5
    obtain ⟨_, _, _, hlen⟩ := isTab_of ht
    have HLR : Hid (∀ j, j < R.length → (row R j).length ≤ Room) := fun j hj => by have := hlen j hj; unfold Room; omega
    have hRl := hR.1.len
    clear hlen hrep
    have HSF : Hid (∀ (o : Option Addr) (c : Nat) (fo : Option Addr) (fc B : Nat) (w' : World), RowsAt w' o R → OwnD w' B (.slice fo F.length fc) F → B ≤ w'.heap.size →
            Calls Tryz.prog 45 #[.agg #[.int .i64 N, .slice o R.length c, .int .i64 m, .int .i64 K, .slice fo F.length fc, .int .i64 t]] w' fun e w'' => ∃ fo' fc', e = .returned (.agg #[.int .i64 N, .slice o R.length c, .int .i64 m, .int .i64 ((K : Int) + 1), .slice fo' (stepF R m N K (F, t)).1.length fc', .int .i64 (stepF R m N K (F, t)).2]) ∧ OwnD w'' B (.slice fo' (stepF R m N K (F, t)).1.length fc') (stepF R m N K (F, t)).1 ∧ Fresh w' (.slice fo F.length fc) (.slice fo' (stepF R m N K (F, t)).1.length fc') ∧ Below w'.heap.size w' w'') :=
          fun o c fo fc B w' h1 h3 h4 => c_step N K o fo c fc R m t F B w' h1 ht hm hKM h3 h4 (by omega) i3 (by omega)
    clear ht hm hk9 i1
    obtain ⟨z9, hz9⟩ : ∃ z, stepF R m N K (F, t) = z := ⟨_, rfl⟩
    rw [hz9] at HVV HSF
    clear hz9
    go_wp2_with fail
    refine (H _ (hR.keep hb) (hD.keep hb)).mono ?_
    clear H
    rintro e w3 ⟨o, c, fo, fc, xs, rfl, hO, hF, ap, hbn⟩
    have hs3 := hbn.size
    replace kA := kA.keep hbn
    replace kZ := kZ.keep hbn
    replace hb := bel_to hb hbn
    clear hbn s0 s1 s2 s3 s4 s5
    go_wp2_with fail
    refine (HSF.out o c fo fc w2.heap.size _ (hO.read hRl HLR.out) hF hs3).mono ?_
    rintro e w4 ⟨fo', fc', rfl, hF', hfr, hbn⟩
    have ap' := apartR_next hO ap hfr
    replace kA := kA.keep hbn
    replace kZ := kZ.keep hbn
    replace hb := bel_to hb hbn
    replace hO := hO.keep hbn
    clear hbn hfr hF ap
    have z0 := kZ.cell 0 (.int .i64 0) rfl
    have z1 := kZ.cell 1 (.slice none 0 0) rfl
    have z2 := kZ.cell 2 (.int .i64 0) rfl
    have z3 := kZ.cell 3 (.int .i64 0) rfl
    have z4 := kZ.cell 4 (.slice none 0 0) rfl
    have z5 := kZ.cell 5 (.int .i64 0) rfl
    have g0 := kZ.free 0
    have g1 := kZ.free 1
    have g2 := kZ.free 2
    have g3 := kZ.free 3
    have g4 := kZ.free 4
    have g5 := kZ.free 5
    have k6 := kZ.set6 (.int .i64 N) (.slice o R.length c) (.int .i64 m) (.int .i64 ((K : Int) + 1)) (.slice fo' z9.1.length fc') (.int .i64 z9.2)
    unfold set6 at k6
    have q0 := k6.cell 0 _ rfl
    have q1 := k6.cell 1 _ rfl
    have q2 := k6.cell 2 _ rfl
    have q3 := k6.cell 3 _ rfl
    have q4 := k6.cell 4 _ rfl
    have q5 := k6.cell 5 _ rfl
    go_wp2
    refine bodyPost_ret (v := .tuple #[.agg #[.int .i64 N, .slice o R.length c, .int .i64 m, .int .i64 ((K : Int) + 1), .slice fo' z9.1.length fc', .int .i64 z9.2], .bool true]) (by simp only [results, Tryz.results12]; simp [go_sem, q0, q1, q2, q3, q4, q5]) rfl ?_
    rw [HVV.out]
    exact ⟨o, c, fo', fc', xs, rfl, (hO.far6 (show w.heap.size + 1 < _ by first | exact hs1 | (have := hs1; omega)) _ _ _ _ _ _).based (by have := hs1; omega), (OwnD.set6 hF' (fun e => by have := (World.ownsRow.lt hF' _ e).1; have := hs1; omega) _ _ _ _ _ _).based (by have := hs1; omega), ap', bel_set6 hb (Nat.le_succ _) _ _ _ _ _ _⟩
set_option maxHeartbeats 6400000 in
theorem c_specStepSearch (A : Sr) (oa fa) (ca fca : Nat) (w : World) (hR : RowsC w oa A.R) (hRs : A.R.length ≤ 1048576 ∧ ∀ j, j < A.R.length → (row A.R j).length ≤ 1048576) (hD : DepsAt w fa A.F) (hDs : A.F.length ≤ 1048576) (hnil : fa = none → fca = 0) :
    SrRes 13 #[.agg #[.int .i64 A.n, .slice oa A.R.length ca, .int .i64 A.m, .int .i64 A.a, .slice fa A.F.length fca, .int .i64 A.t]] w (stSr A) (fun v => .tuple #[v, .bool (okSr A)]) := by
  unfold SrRes
  have H := fun w' h1 h2 => c_l8Copy A oa fa ca fca w' h1 hRs h2 hDs hnil
  have HI := fun w' h1 h2 => c_specIsSearch A oa fa ca fca w' h1 h2
  have HJ := fun w' h1 h2 => c_specIsSearched A oa fa ca fca w' h1 h2
  obtain ⟨k9, hok⟩ : ∃ k, okSr A = k := ⟨_, rfl⟩
  have HV0 : Hid (okSr A = false → stSr A = A) := fun h => by unfold stSr; rw [h]; rfl
  have HV1 : Hid (okSr A = true → stSr A = ⟨A.n, A.R, A.m, A.a + 1, (stepF A.R A.m A.n.toNat A.a.toNat (A.F, A.t)).1, (stepF A.R A.m A.n.toNat A.a.toNat (A.F, A.t)).2⟩) := fun h => by unfold stSr; rw [h]; rfl
  rw [hok]
  have HK9 : Hid (okSr A = k9) := hok
  clear hok
  unfold SrRes at H
  obtain ⟨n, R, m, a, F, t⟩ := A
  dsimp only at *
  have hb := bel2 w (.cells #[.int .i64 n, .slice oa R.length ca, .int .i64 m, .int .i64 a, .slice fa F.length fca, .int .i64 t] 29) (.cells srZ 29)
  have kA := (Blk.new w #[.int .i64 n, .slice oa R.length ca, .int .i64 m, .int .i64 a, .slice fa F.length fca, .int .i64 t] 29).alloc (.cells srZ 29)
  have kZ := Blk.new (w.alloc (.cells #[.int .i64 n, .slice oa R.length ca, .int .i64 m, .int .i64 a, .slice fa F.length fca, .int .i64 t] 29)) srZ 29
  simp only [World.size_alloc] at kZ
  unfold srZ at hb kA kZ
  have s0 := kA.cell 0 (.int .i64 n) rfl
  have s1 := kA.cell 1 (.slice oa R.length ca) rfl
  have s2 := kA.cell 2 (.int .i64 m) rfl
  have s3 := kA.cell 3 (.int .i64 a) rfl
  have s4 := kA.cell 4 (.slice fa F.length fca) rfl
  have s5 := kA.cell 5 (.int .i64 t) rfl
  go_enter Tryz.func13, Tryz.ntmps13
  go_wp2_with fail
  refine (H _ (hR.keep hb) (hD.keep hb)).mono ?_
  clear H
  rintro e w1 ⟨o, c, fo, fc, xs, rfl, hO, hF, ap, hbn⟩
  simp only [World.size_alloc] at hO hF
  replace kA := kA.keep hbn
  replace kZ := kZ.keep hbn
  replace hb := bel_to hb hbn
  have hs1 : w.heap.size + 1 < w1.heap.size := kZ.lt
  clear hbn s0 s1 s2 s3 s4 s5
  have kT := Blk.new w1 #[.int .i64 n, .slice o R.length c, .int .i64 m, .int .i64 a, .slice fo F.length fc, .int .i64 t] 29
  have hba := (Below.refl w1.heap.size w1).alloc (Nat.le_refl _) (.cells #[.int .i64 n, .slice o R.length c, .int .i64 m, .int .i64 a, .slice fo F.length fc, .int .i64 t] 29)
  have nO : Avoid w1.heap.size (.slice o R.length c) xs := fun y hy e => by
    have := hO.old (Nat.le_refl _) y hy _ e
    omega
  have nF : (Value.slice fo F.length fc).ownBlock ≠ some w1.heap.size := hF.not_new (Nat.le_refl _)
  replace kA := kA.keep hba
  replace kZ := kZ.keep hba
  replace hO := hO.keep hba
  replace hF := hF.keep hba
  replace hb := bel_to hb hba
  clear hba
  have s0 := kA.cell 0 (.int .i64 n) rfl
  have s1 := kA.cell 1 (.slice oa R.length ca) rfl
  have s2 := kA.cell 2 (.int .i64 m) rfl
  have s3 := kA.cell 3 (.int .i64 a) rfl
  have s4 := kA.cell 4 (.slice fa F.length fca) rfl
  have s5 := kA.cell 5 (.int .i64 t) rfl
  go_upto_region 2 with fail
  generalize w1.alloc (.cells #[.int .i64 n, .slice o R.length c, .int .i64 m, .int .i64 a, .slice fo F.length fc, .int .i64 t] 29) = w2 at *
  generalize w1.heap.size = k5 at *
  go_wp2_with fail
  cases his : isSrF ⟨n, R, m, a, F, t⟩
  · obtain rfl : k9 = false := by rw [← HK9.out]; unfold okSr; rw [his]; rfl
    refine Calls.mono (Ans.eqb (HI _ (hR.keep hb).1 (hD.keep hb)) his) ?_
    rintro e w3 ⟨rfl, hbn⟩
    replace kA := kA.keep hbn
    replace kZ := kZ.keep hbn
    replace kT := kT.keep hbn
    replace hO := hO.keep hbn
    replace hF := hF.keep hbn
    replace hb := bel_to hb hbn
    clear hbn
    have HVV := HV0.out HK9.out
    clear s0 s1 s2 s3 s4 s5
    have r0 := kT.cell 0 (.int .i64 n) rfl
    have r1 := kT.cell 1 (.slice o R.length c) rfl
    have r2 := kT.cell 2 (.int .i64 m) rfl
    have r3 := kT.cell 3 (.int .i64 a) rfl
    have r4 := kT.cell 4 (.slice fo F.length fc) rfl
    have r5 := kT.cell 5 (.int .i64 t) rfl
    have z0 := kZ.cell 0 (.int .i64 0) rfl
    have z1 := kZ.cell 1 (.slice none 0 0) rfl
    have z2 := kZ.cell 2 (.int .i64 0) rfl
    have z3 := kZ.cell 3 (.int .i64 0) rfl
    have z4 := kZ.cell 4 (.slice none 0 0) rfl
    have z5 := kZ.cell 5 (.int .i64 0) rfl
    have g0 := kZ.free 0
    have g1 := kZ.free 1
    have g2 := kZ.free 2
    have g3 := kZ.free 3
    have g4 := kZ.free 4
    have g5 := kZ.free 5
    have k6 := kZ.set6 (.int .i64 n) (.slice o R.length c) (.int .i64 m) (.int .i64 a) (.slice fo F.length fc) (.int .i64 t)
    unfold set6 at k6
    have q0 := k6.cell 0 _ rfl
    have q1 := k6.cell 1 _ rfl
    have q2 := k6.cell 2 _ rfl
    have q3 := k6.cell 3 _ rfl
    have q4 := k6.cell 4 _ rfl
    have q5 := k6.cell 5 _ rfl
    go_wp2
    refine bodyPost_ret (v := .tuple #[.agg #[.int .i64 n, .slice o R.length c, .int .i64 m, .int .i64 a, .slice fo F.length fc, .int .i64 t], .bool false]) (by simp only [results, Tryz.results13]; simp [go_sem, q0, q1, q2, q3, q4, q5]) rfl ?_
    rw [HVV]
    exact ⟨o, c, fo, fc, xs, rfl, (hO.far6 (show w.heap.size + 1 < w.heap.size + 1 + 1 by omega) _ _ _ _ _ _).based (by omega), (OwnD.set6 hF (fun e => by have := (World.ownsRow.lt hF _ e).1; omega) _ _ _ _ _ _).based (by omega), ap, bel_set6 hb (Nat.le_succ _) _ _ _ _ _ _⟩
  · refine Calls.mono (Ans.eqb (HI _ (hR.keep hb).1 (hD.keep hb)) his) ?_
    rintro e w3 ⟨rfl, hbn⟩
    replace kA := kA.keep hbn
    replace kZ := kZ.keep hbn
    replace kT := kT.keep hbn
    replace hO := hO.keep hbn
    replace hF := hF.keep hbn
    replace hb := bel_to hb hbn
    replace s0 := cell_keep s0 hbn
    replace s1 := cell_keep s1 hbn
    replace s2 := cell_keep s2 hbn
    replace s3 := cell_keep s3 hbn
    replace s4 := cell_keep s4 hbn
    replace s5 := cell_keep s5 hbn
    clear hbn
    go_wp2_with fail
    cases hsd : isSrdF ⟨n, R, m, a, F, t⟩
    · obtain rfl : k9 = true := by rw [← HK9.out]; exact ok_of his hsd
      refine Calls.mono (Ans.eqb (HJ _ (hR.keep hb).1 (hD.keep hb)) hsd) ?_
      rintro e w4 ⟨rfl, hbn⟩
      replace kA := kA.keep hbn
      replace kZ := kZ.keep hbn
      replace kT := kT.keep hbn
      replace hO := hO.keep hbn
      replace hF := hF.keep hbn
      replace hb := bel_to hb hbn
      clear hbn his hsd HI HJ s0 s1 s2 s3 s4 s5
      obtain ⟨N, K, hnN, haK, hN1, hN5, hKM, ht, hm, hrep⟩ := st_ok HK9.out
      dsimp only at hnN haK ht hm hrep
      subst hnN haK
      have HVV : Hid (stSr ⟨(N : Int), R, m, (K : Int), F, t⟩ = ⟨N, R, m, (K : Int) + 1, (stepF R m N K (F, t)).1, (stepF R m N K (F, t)).2⟩) := by show _ = _; rw [HV1.out HK9.out]; simp only [Int.toNat_natCast]
      have hrk := rep_ok (R := R) (m := m) hN5 hN1 K (Nat.le_of_lt hKM)
      rw [hrep] at hrk
      dsimp only at hrk
      obtain ⟨i1, i2, i3, i4⟩ := hrk
      have hc160 := count_le hN5
      obtain ⟨_, _, _, hlen⟩ := isTab_of ht
      have HLR : Hid (∀ j, j < R.length → (row R j).length ≤ Room) := fun j hj => by have := hlen j hj; unfold Room; omega
      have hRl := hR.1.len
      clear hlen hrep
      have HSF : Hid (Calls Tryz.prog 49 #[.pointer (some ⟨k5, 0, none⟩)] w4 fun e w'' => ∃ fo' fc', e = .returned (.tuple #[]) ∧ Blk w'' k5 #[.int .i64 N, .slice o R.length c, .int .i64 m, .int .i64 ((K : Int) + 1), .slice fo' (stepF R m N K (F, t)).1.length fc', .int .i64 (stepF R m N K (F, t)).2] 29 ∧ OwnRows w'' (w.heap.size + 1 + 1) (.slice o R.length c) xs R ∧ OwnD w'' (w.heap.size + 1 + 1) (.slice fo' (stepF R m N K (F, t)).1.length fc') (stepF R m N K (F, t)).1 ∧ ApartR (.slice o R.length c) xs (.slice fo' (stepF R m N K (F, t)).1.length fc') ∧ (Value.slice fo' (stepF R m N K (F, t)).1.length fc').ownBlock ≠ some k5 ∧ Below (w.heap.size + 1 + 1) w4 w'') :=
        c_l8Step N K o fo c fc R m t F k5 (w.heap.size + 1 + 1) xs w4 kT hO hF ap nO nF hs1 ht hKM (by omega) i1 i3 (by omega)
      clear ht hm i1
      obtain ⟨z9, hz9⟩ : ∃ z, stepF R m N K (F, t) = z := ⟨_, rfl⟩
      rw [hz9] at HVV HSF
      clear hz9
      go_wp2_with fail
      refine HSF.out.mono ?_
      clear HSF hO hF ap nF kT
      rintro e w5 ⟨fo', fc', rfl, kT, hO, hF, ap, nF, hbn⟩
      replace kA := kA.keepTo (show w.heap.size < w.heap.size + 1 + 1 by omega) hbn
      replace kZ := kZ.keepTo (show w.heap.size + 1 < w.heap.size + 1 + 1 by omega) hbn
      replace hb := Below.trans hb (hbn.mono (show w.heap.size ≤ w.heap.size + 1 + 1 by omega))
      clear hbn
      have r0 := kT.cell 0 (.int .i64 N) rfl
      have r1 := kT.cell 1 (.slice o R.length c) rfl
      have r2 := kT.cell 2 (.int .i64 m) rfl
      have r3 := kT.cell 3 (.int .i64 ((K : Int) + 1)) rfl
      have r4 := kT.cell 4 (.slice fo' z9.1.length fc') rfl
      have r5 := kT.cell 5 (.int .i64 z9.2) rfl
      have z0 := kZ.cell 0 (.int .i64 0) rfl
      have z1 := kZ.cell 1 (.slice none 0 0) rfl
      have z2 := kZ.cell 2 (.int .i64 0) rfl
      have z3 := kZ.cell 3 (.int .i64 0) rfl
      have z4 := kZ.cell 4 (.slice none 0 0) rfl
      have z5 := kZ.cell 5 (.int .i64 0) rfl
      have g0 := kZ.free 0
      have g1 := kZ.free 1
      have g2 := kZ.free 2
      have g3 := kZ.free 3
      have g4 := kZ.free 4
      have g5 := kZ.free 5
      have k6 := kZ.set6 (.int .i64 N) (.slice o R.length c) (.int .i64 m) (.int .i64 ((K : Int) + 1)) (.slice fo' z9.1.length fc') (.int .i64 z9.2)
      unfold set6 at k6
      have q0 := k6.cell 0 _ rfl
      have q1 := k6.cell 1 _ rfl
      have q2 := k6.cell 2 _ rfl
      have q3 := k6.cell 3 _ rfl
      have q4 := k6.cell 4 _ rfl
      have q5 := k6.cell 5 _ rfl
      go_wp2
      refine bodyPost_ret (v := .tuple #[.agg #[.int .i64 N, .slice o R.length c, .int .i64 m, .int .i64 ((K : Int) + 1), .slice fo' z9.1.length fc', .int .i64 z9.2], .bool true]) (by simp only [results, Tryz.results13]; simp [go_sem, q0, q1, q2, q3, q4, q5]) rfl ?_
      rw [HVV.out]
      exact ⟨o, c, fo', fc', xs, rfl, (hO.far6 (show w.heap.size + 1 < w.heap.size + 1 + 1 by omega) _ _ _ _ _ _).based (by omega), (OwnD.set6 hF (fun e => by have := (World.ownsRow.lt hF _ e).1; omega) _ _ _ _ _ _).based (by omega), ap, bel_set6 hb (Nat.le_succ _) _ _ _ _ _ _⟩
    · obtain rfl : k9 = false := by rw [← HK9.out]; exact no_of hsd
      refine Calls.mono (Ans.eqb (HJ _ (hR.keep hb).1 (hD.keep hb)) hsd) ?_
      rintro e w4 ⟨rfl, hbn⟩
      replace kA := kA.keep hbn
      replace kZ := kZ.keep hbn
      replace kT := kT.keep hbn
      replace hO := hO.keep hbn
      replace hF := hF.keep hbn
      replace hb := bel_to hb hbn
      clear hbn
      have HVV := HV0.out HK9.out
      clear s0 s1 s2 s3 s4 s5
      have r0 := kT.cell 0 (.int .i64 n) rfl
      have r1 := kT.cell 1 (.slice o R.length c) rfl
      have r2 := kT.cell 2 (.int .i64 m) rfl
      have r3 := kT.cell 3 (.int .i64 a) rfl
      have r4 := kT.cell 4 (.slice fo F.length fc) rfl
      have r5 := kT.cell 5 (.int .i64 t) rfl
      have z0 := kZ.cell 0 (.int .i64 0) rfl
      have z1 := kZ.cell 1 (.slice none 0 0) rfl
      have z2 := kZ.cell 2 (.int .i64 0) rfl
      have z3 := kZ.cell 3 (.int .i64 0) rfl
      have z4 := kZ.cell 4 (.slice none 0 0) rfl
      have z5 := kZ.cell 5 (.int .i64 0) rfl
      have g0 := kZ.free 0
      have g1 := kZ.free 1
      have g2 := kZ.free 2
      have g3 := kZ.free 3
      have g4 := kZ.free 4
      have g5 := kZ.free 5
      have k6 := kZ.set6 (.int .i64 n) (.slice o R.length c) (.int .i64 m) (.int .i64 a) (.slice fo F.length fc) (.int .i64 t)
      unfold set6 at k6
      have q0 := k6.cell 0 _ rfl
      have q1 := k6.cell 1 _ rfl
      have q2 := k6.cell 2 _ rfl
      have q3 := k6.cell 3 _ rfl
      have q4 := k6.cell 4 _ rfl
      have q5 := k6.cell 5 _ rfl
      go_wp2
      refine bodyPost_ret (v := .tuple #[.agg #[.int .i64 n, .slice o R.length c, .int .i64 m, .int .i64 a, .slice fo F.length fc, .int .i64 t], .bool false]) (by simp only [results, Tryz.results13]; simp [go_sem, q0, q1, q2, q3, q4, q5]) rfl ?_
      rw [HVV]
      exact ⟨o, c, fo, fc, xs, rfl, (hO.far6 (show w.heap.size + 1 < w.heap.size + 1 + 1 by omega) _ _ _ _ _ _).based (by omega), (OwnD.set6 hF (fun e => by have := (World.ownsRow.lt hF _ e).1; omega) _ _ _ _ _ _).based (by omega), ap, bel_set6 hb (Nat.le_succ _) _ _ _ _ _ _⟩
end Go.Proofs.YtcenndlbhgfdfaaGreat
namespace Go.Proofs.YtcenndlbhgfdfaaGreat
open Go.RowKit
set_option linter.unusedVariables false
set_option maxRecDepth 100000

set_option maxHeartbeats 1600000 in
theorem c_lawHasDep (oa) (cap : Nat) (A : List (Int × Int)) (l r : Int) (w : World) (hD : DepsAt w oa A) :
    Ans Tryz.prog 17 #[.slice oa A.length cap, .agg #[.int .i64 l, .int .i64 r]] w (.bool (A.contains (l, r))) := by
  unfold Ans
  have hn : A.length ≤ 1073741824 := hD.len
  have hb := (Below.refl w.heap.size w).alloc (Nat.le_refl _) (.cells #[.int .i64 l, .int .i64 r] 38)
  have b0 := box_at w #[.int .i64 l, .int .i64 r] 38 0 _ rfl
  have b1 := box_at w #[.int .i64 l, .int .i64 r] 38 1 _ rfl
  go_enter Tryz.func17, Tryz.ntmps17
  go_wp2
  go_loopw [5] (fun i wr => ∃ k : Nat, i = .int .i64 k ∧ k ≤ A.length ∧ (A.take k).contains (l, r) = false ∧ wr.cell? ⟨w.heap.size, 0, none⟩ = some (.int .i64 l) ∧ wr.cell? ⟨w.heap.size, 1, none⟩ = some (.int .i64 r) ∧ Below w.heap.size w wr) (fun i _ => A.length - (intOf i).toNat)
  case atStart => exact ⟨0, rfl, Nat.zero_le _, by simp, b0, b1, hb⟩
  case round =>
    clear b0 b1 hb
    obtain ⟨k, rfl, hk, hall, b0, b1, hb⟩ := hrel
    have HA : Hid ((A.take k).contains (l, r) = false) := hall
    clear hall
    by_cases hlt : k < A.length
    · obtain ⟨b, off, rfl, hbs, hc⟩ := hD.at_ (by omega)
      have hc1 := cell_keep (hc k hlt).1 hb
      have hc2 := cell_keep (hc k hlt).2 hb
      have HT : Hid ((A.take (k + 1)).contains (l, r) = ((A.take k).contains (l, r) || (nl A k == l && nr A k == r))) := contains_succ hlt (l, r)
      have HF : Hid (nl A k = l → nr A k = r → A.contains (l, r) = true) := contains_at hlt
      clear hc
      cases he : (nl A k == l && nr A k == r)
      · have he1 : ¬ (nl A k = l ∧ nr A k = r) := by simpa using he
        by_cases h1 : nl A k = l
        · have h2 : ¬ (nr A k = r) := fun h => he1 ⟨h1, h⟩
          have e1 : (nl A k == l) = true := by simp [h1]
          have e2 : (nr A k == r) = false := by simp [h2]
          clear he1 h1 h2
          go_wp2_with fail
          (refine wp_region_after (by kernel_rfl) (by kernel_rfl) ?_; have q_hc1 := fun (x : After _) => cell_keep hc1 x.bel; have q_hc2 := fun (x : After _) => cell_keep hc2 x.bel; have q_b0 := fun (x : After _) => cell_keep b0 x.bel; have q_b1 := fun (x : After _) => cell_keep b1 x.bel; (repeat (go_big_quiet_step (fail))); clear q_hc1; clear q_hc2; clear q_b0; clear q_b1; refine wpQuiet_nil ?_; rintro _ ⟨⟨w1, hbn⟩, rfl⟩; (try simp only [After.w]); replace hc1 := cell_keep hc1 hbn; replace hc2 := cell_keep hc2 hbn; replace b0 := cell_keep b0 hbn; replace b1 := cell_keep b1 hbn; replace hb := bel_to (w := w) (by first | exact hb | exact hb.alloc hb.size _ | exact (hb.alloc hb.size _).alloc (Nat.le_trans hb.size (by simp)) _ | exact hb.setCell (by simp [hb.size]) _) hbn; clear hbn)
          go_wp2
          go_roundw
          case rel => exact ⟨k + 1, by go_num, by omega, by rw [HT.out, HA.out, he]; rfl, b0, b1, hb⟩
          case measure => simp [intOf]; omega
        · have e1 : (nl A k == l) = false := by simp [h1]
          clear he1 h1
          go_wp2_with fail
          (refine wp_region_after (by kernel_rfl) (by kernel_rfl) ?_; have q_hc1 := fun (x : After _) => cell_keep hc1 x.bel; have q_hc2 := fun (x : After _) => cell_keep hc2 x.bel; have q_b0 := fun (x : After _) => cell_keep b0 x.bel; have q_b1 := fun (x : After _) => cell_keep b1 x.bel; (repeat (go_big_quiet_step (fail))); clear q_hc1; clear q_hc2; clear q_b0; clear q_b1; refine wpQuiet_nil ?_; rintro _ ⟨⟨w1, hbn⟩, rfl⟩; (try simp only [After.w]); replace hc1 := cell_keep hc1 hbn; replace hc2 := cell_keep hc2 hbn; replace b0 := cell_keep b0 hbn; replace b1 := cell_keep b1 hbn; replace hb := bel_to (w := w) (by first | exact hb | exact hb.alloc hb.size _ | exact (hb.alloc hb.size _).alloc (Nat.le_trans hb.size (by simp)) _ | exact hb.setCell (by simp [hb.size]) _) hbn; clear hbn)
          go_wp2
          go_roundw
          case rel => exact ⟨k + 1, by go_num, by omega, by rw [HT.out, HA.out, he]; rfl, b0, b1, hb⟩
          case measure => simp [intOf]; omega
      · have he1 : nl A k = l ∧ nr A k = r := by simpa using he
        have HV : Hid (A.contains (l, r) = true) := HF.out he1.1 he1.2
        have e1 : (nl A k == l) = true := by simp [he1.1]
        have e2 : (nr A k == r) = true := by simp [he1.2]
        clear he1 he
        go_wp2_with fail
        (refine wp_region_after (by kernel_rfl) (by kernel_rfl) ?_; have q_hc1 := fun (x : After _) => cell_keep hc1 x.bel; have q_hc2 := fun (x : After _) => cell_keep hc2 x.bel; have q_b0 := fun (x : After _) => cell_keep b0 x.bel; have q_b1 := fun (x : After _) => cell_keep b1 x.bel; (repeat (go_big_quiet_step (fail))); clear q_hc1; clear q_hc2; clear q_b0; clear q_b1; refine wpQuiet_nil ?_; rintro _ ⟨⟨w1, hbn⟩, rfl⟩; (try simp only [After.w]); replace hc1 := cell_keep hc1 hbn; replace hc2 := cell_keep hc2 hbn; replace b0 := cell_keep b0 hbn; replace b1 := cell_keep b1 hbn; replace hb := bel_to (w := w) (by first | exact hb | exact hb.alloc hb.size _ | exact (hb.alloc hb.size _).alloc (Nat.le_trans hb.size (by simp)) _ | exact hb.setCell (by simp [hb.size]) _) hbn; clear hbn)
        go_wp2
        go_ret
        exact ⟨ret_bool HV.out.symm, hb⟩
    · have hkk : k = A.length := by omega
      have HS : Hid (A.contains (l, r) = false) := by have := HA.out; rw [hkk, List.take_length] at this; exact this
      clear hkk
      go_wp2
      go_ret
      exact ⟨ret_bool HS.out.symm, hb⟩
set_option maxHeartbeats 1600000 in
theorem c_lawSameSet (oa ob) (ca cb : Nat) (A B : List (Int × Int)) (w : World) (hA : DepsAt w oa A) (hB : DepsAt w ob B) (hl : A.length = B.length) (hm : ∀ k, k < A.length → B.contains (nl A k, nr A k) = true) :
    Ans Tryz.prog 19 #[.slice oa A.length ca, .slice ob B.length cb] w (.bool true) := by
  unfold Ans
  have hn : A.length ≤ 1073741824 := hA.len
  have hq : ((A.length : Int) == (B.length : Int)) = true := by simp [hl]
  have HM : Hid (∀ k, k < A.length → B.contains (nl A k, nr A k) = true) := hm
  clear hl hm
  go_enter Tryz.func19, Tryz.ntmps19
  go_wp2
  go_loopw [5] (fun i wr => ∃ k : Nat, i = .int .i64 k ∧ k ≤ A.length ∧ Below w.heap.size w wr) (fun i _ => A.length - (intOf i).toNat)
  case atStart => exact ⟨0, rfl, Nat.zero_le _, Below.refl _ _⟩
  case round =>
    obtain ⟨k, rfl, hk, hb⟩ := hrel
    by_cases hlt : k < A.length
    · obtain ⟨b, off, rfl, hbs, hc⟩ := hA.at_ (by omega)
      have hc1 := cell_keep (hc k hlt).1 hb
      have hc2 := cell_keep (hc k hlt).2 hb
      have HC := HM.out k hlt
      clear hc
      generalize nl A k = l at *
      generalize nr A k = r at *
      go_wp2_with fail
      refine Calls.mono (Ans.eqb (c_lawHasDep ob cb B l r _ (hB.keep hb)) HC) ?_
      rintro e w2 ⟨rfl, hbn⟩
      replace hb := bel_to hb hbn
      clear hbn HC hc1 hc2
      go_wp2
      go_roundw
      case rel => exact ⟨k + 1, by go_num, by omega, hb⟩
      case measure => simp [intOf]; omega
    · go_wp2
      go_ret
      exact ⟨rfl, hb⟩
end Go.Proofs.YtcenndlbhgfdfaaGreat
namespace Go.Proofs.YtcenndlbhgfdfaaGreat
open Go.RowKit
set_option linter.unusedVariables false
set_option maxRecDepth 100000

/-- A search of a size that can be read. -/
def SB (A : Sr) : Prop := A.R.length ≤ 1048576 ∧ (∀ j, j < A.R.length → (row A.R j).length ≤ 1048576) ∧ A.F.length ≤ 1048576
theorem Sm.sb {A : Sr} (h : Sm 161 A) : SB A := ⟨Nat.le_trans h.1 (by omega), fun j hj => Nat.le_trans (h.2.1 j hj) (by omega), Nat.le_trans h.2.2.1 (by omega)⟩
theorem st_sb {A : Sr} (h : Sm 161 A) : SB (stSr A) := by
  unfold stSr
  split
  · refine ⟨h.sb.1, h.sb.2.1, ?_⟩
    have h1 := h.2.2.1
    show (stepF A.R A.m A.n.toNat A.a.toNat (A.F, A.t)).1.length ≤ 1048576
    unfold stepF
    split
    · show A.F.length ≤ 1048576; omega
    · split
      · show (A.F ++ _).length ≤ 1048576; simp; omega
      · show A.F.length ≤ 1048576; omega
  · exact h.sb
theorem ns_sb {n m : Int} {R : List (List Int)} (h1 : R.length ≤ 13) (h2 : ∀ j, j < R.length → (row R j).length ≤ 5) : SB (nsF n R m) := by
  unfold nsF
  split
  · exact ⟨Nat.le_trans h1 (by omega), fun j hj => Nat.le_trans (h2 j hj) (by omega), Nat.zero_le _⟩
  · exact ⟨Nat.zero_le _, fun j hj => absurd hj (Nat.not_lt_zero _), Nat.zero_le _⟩
theorem eqSr_self (A : Sr) : eqSrF A A = true := by unfold eqSrF eqTabF; simp
/-- A search lies readable. -/
def SrIn (w : World) (A : Sr) (o fo : Option Addr) (fc : Nat) : Prop := RowsC w o A.R ∧ DepsAt w fo A.F ∧ (fo = none → fc = 0)
theorem SrIn.keep {w w' : World} {A : Sr} {o fo : Option Addr} {fc : Nat} (h : SrIn w A o fo fc) (hb : Below w.heap.size w w') : SrIn w' A o fo fc := ⟨h.1.keep hb, h.2.1.keep hb, h.2.2⟩
theorem srIn_of {w : World} {B : Nat} {A : Sr} {o : Option Addr} {c : Nat} {fo : Option Addr} {fc : Nat} {xs : List Value} (hO : OwnRows w B (.slice o A.R.length c) xs A.R) (hF : OwnD w B (.slice fo A.F.length fc) A.F) (h : SB A) : SrIn w A o fo fc :=
  ⟨hO.readC (Nat.le_trans h.1 (by unfold Room; omega)) (fun j hj => Nat.le_trans (h.2.1 j hj) (by unfold Room; omega)), hF.deps rfl (Nat.le_trans h.2.2 (by unfold Room; omega)), hF.nilcap⟩
theorem SrRes.got {f : FuncId} {args : Array Value} {w : World} {A : Sr} {q : Value → Value} (h : SrRes f args w A q) (hs : SB A) :
    Calls Tryz.prog f args w fun e w' => ∃ o c fo fc, e = .returned (q (.agg #[.int .i64 A.n, .slice o A.R.length c, .int .i64 A.m, .int .i64 A.a, .slice fo A.F.length fc, .int .i64 A.t])) ∧ SrIn w' A o fo fc ∧ Below w.heap.size w w' := by
  unfold SrRes at h
  refine h.mono ?_
  rintro e w' ⟨o, c, fo, fc, xs, rfl, h1, h2, h3, h4⟩
  exact ⟨o, c, fo, fc, rfl, srIn_of h1 h2 hs, h4⟩
end Go.Proofs.YtcenndlbhgfdfaaGreat
namespace Go.Proofs.YtcenndlbhgfdfaaGreat
open Go.RowKit
set_option linter.unusedVariables false
set_option maxRecDepth 100000

theorem c_big (oa) (m cap : Nat) (w : World) : Ans Tryz.prog 5 #[.slice oa m cap] w (.bool (decide ((1048576 : Int) < m))) := by
  unfold Ans
  go_enter Tryz.func5, Tryz.ntmps5
  go_wp2
  go_ret
  exact ⟨ret_bool (by simp), Below.refl _ _⟩
theorem c_lawSameInts (oa ob) (ca cb : Nat) (L : List Int) (w : World) (hA : IntsAt w oa L) (hB : IntsAt w ob L) :
    Ans Tryz.prog 28 #[.slice oa L.length ca, .slice ob L.length cb] w (.bool true) := by
  unfold Ans
  have hn : L.length ≤ 1073741824 := hA.len
  have hne : ((L.length : Int) != L.length) = false := by simp
  go_enter Tryz.func28, Tryz.ntmps28
  go_wp2
  go_loopw [5] (fun i wr => ∃ k : Nat, i = .int .i64 k ∧ k ≤ L.length ∧ Below w.heap.size w wr) (fun i _ => L.length - (intOf i).toNat)
  case atStart => exact ⟨0, rfl, Nat.zero_le _, Below.refl _ _⟩
  case round =>
    obtain ⟨k, rfl, hk, hb⟩ := hrel
    by_cases hlt : k < L.length
    · obtain ⟨b, off, rfl, hbs, hc⟩ := hA.at_ (by omega)
      obtain ⟨b', off', rfl, hbs', hc'⟩ := hB.at_ (by omega)
      have h1 := cell_keep (hc k hlt) hb
      have h2 := cell_keep (hc' k hlt) hb
      have hx : (nth L k != nth L k) = false := by simp
      clear hc hc'
      go_wp2_with fail
      (refine wp_region_after (by kernel_rfl) (by kernel_rfl) ?_; have q_h1 := fun (x : After _) => cell_keep h1 x.bel; have q_h2 := fun (x : After _) => cell_keep h2 x.bel; (repeat (go_big_quiet_step (fail))); clear q_h1; clear q_h2; refine wpQuiet_nil ?_; rintro _ ⟨⟨w1, hbn⟩, rfl⟩; (try simp only [After.w]); replace h1 := cell_keep h1 hbn; replace h2 := cell_keep h2 hbn; replace hb := bel_to (w := w) (by first | exact hb | exact hb.alloc hb.size _ | exact (hb.alloc hb.size _).alloc (Nat.le_trans hb.size (by simp)) _ | exact hb.setCell (by simp [hb.size]) _) hbn; clear hbn)
      go_wp2
      go_roundw
      case rel => exact ⟨k + 1, by go_num, by omega, hb⟩
      case measure => simp [intOf]; omega
    · have hkk : k = L.length := by omega
      have HK : Hid (k = L.length) := hkk
      clear hkk
      go_wp2
      go_ret
      exact ⟨rfl, hb⟩
end Go.Proofs.YtcenndlbhgfdfaaGreat
namespace Go.Proofs.YtcenndlbhgfdfaaGreat
open Go.RowKit
set_option linter.unusedVariables false
set_option maxRecDepth 100000

theorem c_closM (n : Int) (oa) (cap : Nat) (R : List (List Int)) (m x r : Int) (B C : Nat) (w : World) (hR : RowsAt w oa R) (a0 : w.cell? ⟨B, 0, none⟩ = some (.int .i64 n)) (a1 : w.cell? ⟨B, 1, none⟩ = some (.slice oa R.length cap)) (m0 : w.cell? ⟨C, 0, none⟩ = some (.int .i64 m)) :
    Ans Tryz.prog 70 #[.agg #[.int .i64 x, .int .i64 r], .pointer (some ⟨B, 0, none⟩), .pointer (some ⟨C, 0, none⟩)] w (.bool (askF n R m x r && holdsF R m x r)) := by
  unfold Ans
  have hb := (Below.refl w.heap.size w).alloc (Nat.le_refl _) (.cells #[.int .i64 x, .int .i64 r] 38)
  have b0 := cell_al a0 (.cells #[.int .i64 x, .int .i64 r] 38)
  have b1 := cell_al a1 (.cells #[.int .i64 x, .int .i64 r] 38)
  have c0 := cell_al m0 (.cells #[.int .i64 x, .int .i64 r] 38)
  clear a0 a1 m0
  go_enter Tryz.func70, Tryz.ntmps70
  go_wp2_with (first | (go_at_call 33; refine Calls.mono (c_HoldsDep _ _ _ _ _ _ _ _ (hR.keep hb)) ?_; rintro e w1 ⟨rfl, hbn⟩; replace hb := bel_to (w := w) (by first | exact hb | exact hb.alloc hb.size _ | exact (hb.alloc hb.size _).alloc (Nat.le_trans hb.size (by simp)) _ | exact hb.setCell (by simp [hb.size]) _) hbn; clear hbn))
  go_ret
  exact ⟨rfl, hb⟩
theorem OwnD.nil (w : World) (base : Nat) : OwnD w base (.slice none 0 0) [] := ⟨rfl, Or.inl ⟨rfl, rfl⟩⟩
set_option maxHeartbeats 800000 in
theorem c_MinimalDeps (n : Int) (oa) (cap : Nat) (R : List (List Int)) (m : Int) (w : World) (hR : RowsAt w oa R) :
    Calls Tryz.prog 27 #[.agg #[.int .i64 n, .slice oa R.length cap], .int .i64 m] w fun e w' => ∃ v, e = .returned v ∧ OwnD w' w.heap.size v (minDepsF n R m) ∧ Below w.heap.size w w' := by
  have hb := bel2 w (.cells #[.int .i64 n, .slice oa R.length cap] 26) (.cells #[.int .i64 m] 3)
  have a0 := two_a w #[.int .i64 n, .slice oa R.length cap] 26 #[.int .i64 m] 3 0 _ rfl
  have a1 := two_a w #[.int .i64 n, .slice oa R.length cap] 26 #[.int .i64 m] 3 1 _ rfl
  have m0 := two_b w #[.int .i64 n, .slice oa R.length cap] 26 #[.int .i64 m] 3 0 _ rfl
  cases ht : isTabF n R
  · have HM : Hid (minDepsF n R m = []) := by show minDepsF n R m = []; unfold minDepsF; rw [ht]; rfl
    go_enter Tryz.func27, Tryz.ntmps27
    go_wp2_with (first | (go_at_call 60; refine Calls.mono (Ans.eqb (c_IsTable _ _ _ _ _ (hR.keep hb)) ht) ?_; rintro e w1 ⟨rfl, hbn⟩; replace a0 := cell_keep a0 hbn; replace a1 := cell_keep a1 hbn; replace m0 := cell_keep m0 hbn; replace hb := bel_to (w := w) (by first | exact hb | exact hb.alloc hb.size _ | exact (hb.alloc hb.size _).alloc (Nat.le_trans hb.size (by simp)) _ | exact hb.setCell (by simp [hb.size]) _) hbn; clear hbn))
    go_ret
    exact ⟨_, rfl, by rw [HM.out]; exact OwnD.nil _ _, hb⟩
  cases hm : modeF m
  · have HM : Hid (minDepsF n R m = []) := by show minDepsF n R m = []; unfold minDepsF; rw [ht, hm]; rfl
    go_enter Tryz.func27, Tryz.ntmps27
    go_wp2_with (first | (go_at_call 60; refine Calls.mono (Ans.eqb (c_IsTable _ _ _ _ _ (hR.keep hb)) ht) ?_; rintro e w1 ⟨rfl, hbn⟩; replace a0 := cell_keep a0 hbn; replace a1 := cell_keep a1 hbn; replace m0 := cell_keep m0 hbn; replace hb := bel_to (w := w) (by first | exact hb | exact hb.alloc hb.size _ | exact (hb.alloc hb.size _).alloc (Nat.le_trans hb.size (by simp)) _ | exact hb.setCell (by simp [hb.size]) _) hbn; clear hbn) | (go_at_call 61; refine Calls.mono (Ans.eqb (c_isMode _ _) hm) ?_; rintro e w1 ⟨rfl, hbn⟩; replace a0 := cell_keep a0 hbn; replace a1 := cell_keep a1 hbn; replace m0 := cell_keep m0 hbn; replace hb := bel_to (w := w) (by first | exact hb | exact hb.alloc hb.size _ | exact (hb.alloc hb.size _).alloc (Nat.le_trans hb.size (by simp)) _ | exact hb.setCell (by simp [hb.size]) _) hbn; clear hbn))
    go_ret
    exact ⟨_, rfl, by rw [HM.out]; exact OwnD.nil _ _, hb⟩
  obtain ⟨hn1, hn5, _, _⟩ := isTab_of ht
  obtain ⟨N, rfl⟩ := Int.eq_ofNat_of_zero_le (show 0 ≤ n by omega)
  have HM : Hid (minDepsF N R m = colsF (fun x r => holdsF R m x r) (partsF N) N) := by show minDepsF N R m = _; unfold minDepsF; rw [ht, hm, Int.toNat_natCast]; rfl
  have HA : Hid (∀ x r : Int, St x → (0 ≤ r ∧ r < N) → x < 2 ^ N → askF N R m x r = true) := fun x r hx hr h2 =>
    (bord_dep (n := (N : Int)) (r := r) (by unfold bordOk; rw [ht, hm, decide_eq_true hr.1, decide_eq_true hr.2]; rfl) hx.1 (by rw [Int.toNat_natCast]; exact h2)).1
  have hN5 : N ≤ 5 := by omega
  go_enter Tryz.func27, Tryz.ntmps27
  go_wp2_with (first | (go_at_call 60; refine Calls.mono (Ans.eqb (c_IsTable _ _ _ _ _ (hR.keep hb)) ht) ?_; rintro e w1 ⟨rfl, hbn⟩; replace a0 := cell_keep a0 hbn; replace a1 := cell_keep a1 hbn; replace m0 := cell_keep m0 hbn; replace hb := bel_to (w := w) (by first | exact hb | exact hb.alloc hb.size _ | exact (hb.alloc hb.size _).alloc (Nat.le_trans hb.size (by simp)) _ | exact hb.setCell (by simp [hb.size]) _) hbn; clear hbn) | (go_at_call 61; refine Calls.mono (Ans.eqb (c_isMode _ _) hm) ?_; rintro e w1 ⟨rfl, hbn⟩; replace a0 := cell_keep a0 hbn; replace a1 := cell_keep a1 hbn; replace m0 := cell_keep m0 hbn; replace hb := bel_to (w := w) (by first | exact hb | exact hb.alloc hb.size _ | exact (hb.alloc hb.size _).alloc (Nat.le_trans hb.size (by simp)) _ | exact hb.setCell (by simp [hb.size]) _) hbn; clear hbn))
  refine (c_minimalDeps_M N hN5 _ _ (fun x r => holdsF R m x r) _ ?_).mono ?_
  · intro W x r hst hr hx2 hB
    exact Ans.eqb (c_closM N oa cap R m x r _ _ W ((hR.keep hb).keep hB) (cell_keep a0 hB) (cell_keep a1 hB) (cell_keep m0 hB)) (by rw [HA.out x r hst hr hx2]; rfl)
  rintro e w2 ⟨v2, rfl, hO, hbn⟩
  replace hO := hO.based hb.size
  replace hb := bel_to hb hbn
  clear hbn
  go_wp2
  go_ret
  exact ⟨_, rfl, by rw [HM.out]; exact hO, hb⟩

theorem emptyD_behind {w' : World} {B j : Nat} {v : Value} (h : w'.cell? ⟨B, j, none⟩ = some v) : OwnD (w'.alloc (.cells #[] 38)) (B + 1) (.slice (some ⟨w'.heap.size, 0, none⟩) 0 0) [] := OwnD.empty _ _ (World.block_lt_of_cell? _ _ h)
theorem colG_len (n : Int) (R : List (List Int)) (m : Int) (L : List Int) (r : Int) : (colG n R m L r).length ≤ L.length := by
  unfold colG
  rw [List.length_map]
  exact List.length_filter_le _ _
theorem colsG_len (n : Int) (R : List (List Int)) (m : Int) : ∀ k, (colsG n R m k).length ≤ 32 * k
  | 0 => by simp [colsG]
  | k + 1 => by
    rw [colsG_succ, List.length_append]
    have h1 := colsG_len n R m k
    have h2 := colG_len n R m (partsF n) k
    have h3 := partsF_len n
    omega
set_option maxHeartbeats 1600000 in
theorem c_specMinimalDeps (n : Int) (oa) (cap : Nat) (R : List (List Int)) (m : Int) (w : World) (hR : RowsAt w oa R) :
    Calls Tryz.prog 16 #[.agg #[.int .i64 n, .slice oa R.length cap], .int .i64 m] w fun e w' => ∃ v, e = .returned v ∧ OwnD w' w.heap.size v (minDepsF n R m) ∧ Below w.heap.size w w' := by
  obtain ⟨j0, hj, hy0, hy1, hy2⟩ := info_parts info_dep
  have hb := bel2 w (.cells #[.int .i64 n, .slice oa R.length cap] 26) (.cells #[] 38)
  have a0 := two_a w #[.int .i64 n, .slice oa R.length cap] 26 #[] 38 0 _ rfl
  have a1 := two_a w #[.int .i64 n, .slice oa R.length cap] 26 #[] 38 1 _ rfl
  have hO : OwnD ((w.alloc (.cells #[.int .i64 n, .slice oa R.length cap] 26)).alloc (.cells #[] 38)) (w.heap.size + 1) (.slice (some ⟨w.heap.size + 1, 0, none⟩) 0 0) [] := by
    have h := (OwnD.empty (w.alloc (.cells #[.int .i64 n, .slice oa R.length cap] 26)) _ (Nat.le_refl _))
    simpa using h
  cases hf : (isTabF n R && modeF m)
  · have HM : Hid (minDepsF n R m = []) := by show minDepsF n R m = []; unfold minDepsF; rw [hf]; rfl
    go_enter Tryz.func16, Tryz.ntmps16
    go_wp2_with (first | (go_at_call 51; refine Calls.mono (Ans.eqb (c_l4Fine _ _ _ _ _ _ (hR.keep hb)) hf) ?_; rintro e w1 ⟨rfl, hbn⟩; replace a0 := cell_keep a0 hbn; replace a1 := cell_keep a1 hbn; replace hO := hO.keep hbn; replace hb := bel_to (w := w) (by first | exact hb | exact hb.alloc hb.size _ | exact (hb.alloc hb.size _).alloc (Nat.le_trans hb.size (by simp)) _ | exact hb.setCell (by simp [hb.size]) _) hbn; clear hbn))
    go_ret
    exact ⟨_, rfl, by rw [HM.out]; exact hO.based (Nat.le_succ _), hb⟩
  have ht : isTabF n R = true := by have := hf; simp only [Bool.and_eq_true] at this; exact this.1
  obtain ⟨hn1, hn5, _, hlen⟩ := isTab_of ht
  obtain ⟨N, rfl⟩ := Int.eq_ofNat_of_zero_le (show 0 ≤ n by omega)
  have hN5 : N ≤ 5 := by omega
  have HM : Hid (minDepsF N R m = colsG N R m N) := by
    show minDepsF N R m = _
    unfold minDepsF
    rw [if_pos hf, Int.toNat_natCast]
    exact cols_same hN5 (fun i hi => by have := hlen i hi; omega) N (Nat.le_refl _)
  have HH : Hid (∀ (w' : World) (x r : Int), St x → Co r → RowsAt w' oa R → Ans Tryz.prog 57 #[.agg #[.int .i64 N, .slice oa R.length cap], .int .i64 m, .agg #[.int .i64 x, .int .i64 r]] w' (.bool (l7F N R m x r))) := fun w' x r hx hr h => c_l7Minimal N oa cap R m x r w' h ht hx hr
  have hpl := partsF_len N
  have HPS : Hid (∀ x ∈ partsF N, St x) := fun x hx => by
    have h := (partsF_mem (n := N) (by omega) (by omega)).1 hx
    have h2 := (pow_wrap (n := (N : Int)) (by omega) (by omega)).2.1
    exact ⟨h.1, by omega⟩
  clear ht hlen
  go_enter Tryz.func16, Tryz.ntmps16
  go_wp2_with (first | (go_at_call 51; refine Calls.mono (Ans.eqb (c_l4Fine _ _ _ _ _ _ (hR.keep hb)) hf) ?_; rintro e w1 ⟨rfl, hbn⟩; replace a0 := cell_keep a0 hbn; replace a1 := cell_keep a1 hbn; replace hO := hO.keep hbn; replace hb := bel_to (w := w) (by first | exact hb | exact hb.alloc hb.size _ | exact (hb.alloc hb.size _).alloc (Nat.le_trans hb.size (by simp)) _ | exact hb.setCell (by simp [hb.size]) _) hbn; clear hbn))
  have old := hO
  refine (c_specPartsBySize (N : Int) _).mono ?_
  rintro e w2 ⟨v2, rfl, hP, hbn⟩
  have ap_PO := (apart_old old hP).symm
  replace hO := hO.keep hbn
  replace hP := hP.based (World.block_lt_of_cell? _ _ a1)
  replace a0 := cell_keep a0 hbn
  replace a1 := cell_keep a1 hbn
  replace hb := bel_to hb hbn
  clear old hbn
  have HGS : Hid (∀ k : Nat, colsG N R m (k + 1) = colsG N R m k ++ colG N R m (partsF N) k) := fun k => colsG_succ _ _ _ k
  generalize partsF N = P at *
  obtain ⟨o1, c1, rfl⟩ := hP.shape
  have hPr : P.length ≤ Room := by unfold Room; omega
  go_wp2
  go_loopw [5, 7] (fun v i wr => ∃ r : Nat, i = .int .i64 r ∧ r ≤ N ∧ OwnD wr (w.heap.size + 1) v (colsG N R m r) ∧ OwnI wr (w.heap.size + 1) (.slice o1 P.length c1) P ∧ Apart (.slice o1 P.length c1) v ∧ wr.cell? ⟨w.heap.size, 0, none⟩ = some (.int .i64 N) ∧ wr.cell? ⟨w.heap.size, 1, none⟩ = some (.slice oa R.length cap) ∧ Below w.heap.size w wr) (fun _ i _ => N - (intOf i).toNat)
  case atStart => exact ⟨0, rfl, Nat.zero_le _, by simpa [colsG] using hO, hP, ap_PO, a0, a1, hb⟩
  case round =>
    clear hO hP ap_PO a0 a1 hb
    obtain ⟨r, rfl, hr, hO, hP, ap_PO, a0, a1, hb⟩ := hrel
    have hcl := colsG_len N R m r
    by_cases hlt : r < N
    · have HC : Hid (colsG N R m (r + 1) = colsG N R m r ++ colG N R m P r) := HGS.out r
      have hco : Hid (Co (r : Int)) := ⟨by omega, by omega⟩
      generalize colsG N R m r = A at *
      go_wp2
      go_loopw [5, 8] (fun v i wr => ∃ k : Nat, i = .int .i64 k ∧ k ≤ P.length ∧ OwnD wr (w.heap.size + 1) v (A ++ colG N R m (P.take k) r) ∧ OwnI wr (w.heap.size + 1) (.slice o1 P.length c1) P ∧ Apart (.slice o1 P.length c1) v ∧ wr.cell? ⟨w.heap.size, 0, none⟩ = some (.int .i64 N) ∧ wr.cell? ⟨w.heap.size, 1, none⟩ = some (.slice oa R.length cap) ∧ Below w.heap.size w wr) (fun _ i _ => P.length - (intOf i).toNat)
      case atStart => exact ⟨0, rfl, Nat.zero_le _, by simpa [colG] using hO, hP, ap_PO, a0, a1, hb⟩
      case round =>
        clear hO hP ap_PO a0 a1 hb
        obtain ⟨k, rfl, hk, hO, hP, ap_PO, a0, a1, hb⟩ := hrel
        by_cases hlk : k < P.length
        · obtain ⟨b2, off2, rfl, hbs2, hca⟩ := (hP.ints rfl hPr).at_ (by omega)
          have hc2 := hca k hlk
          have hst : Hid (St (nth P k)) := HPS.out _ (List.mem_iff_getElem?.2 ⟨k, nth_eq hlk⟩)
          have hOl : (A ++ colG N R m (P.take k) r).length ≤ 300 := by
            have h := colG_len N R m (P.take k) r
            rw [List.length_take] at h
            rw [List.length_append]
            omega
          have HOs : Hid (A ++ colG N R m (P.take (k + 1)) r = (A ++ colG N R m (P.take k) r) ++ (if l7F N R m (nth P k) r then [(nth P k, (r : Int))] else [])) := by
            show A ++ colG N R m (P.take (k + 1)) r = (A ++ colG N R m (P.take k) r) ++ (if l7F N R m (nth P k) r then [(nth P k, (r : Int))] else [])
            unfold colG
            rw [filter_take_succ _ _ _ hlk, List.map_append, List.append_assoc]
            congr 2
            split <;> simp
          clear hca
          generalize nth P k = x at *
          generalize A ++ colG N R m (P.take k) r = C at *
          have e0 := box_at wr #[.int .i64 x, .int .i64 (r : Int)] 38 0 _ rfl
          have e1 := box_at wr #[.int .i64 x, .int .i64 (r : Int)] 38 1 _ rfl
          replace a0 := cell_al a0 (.cells #[.int .i64 x, .int .i64 (r : Int)] 38)
          replace a1 := cell_al a1 (.cells #[.int .i64 x, .int .i64 (r : Int)] 38)
          cases h1 : l7F N R m x (r : Int)
          · go_wp2_with fail
            refine Calls.mono (Ans.eqb (b' := false) (HH.out _ x (r : Int) hst.out hco.out (hR.keep (hb.alloc hb.size _))) h1) ?_
            rintro e w3 ⟨rfl, hbn⟩
            replace a0 := cell_keep a0 hbn
            replace a1 := cell_keep a1 hbn
            replace hO := OwnD.keep (World.ownsRow.alloc hO _) hbn
            replace hP := OwnI.keep (World.ownsRow.alloc hP _) hbn
            replace hb := bel_to (hb.alloc hb.size _) hbn
            clear hbn e0 e1
            go_wp2
            go_roundw
            case rel => exact ⟨k + 1, by go_num, by omega, by rw [HOs.out, h1]; simpa using hO, hP, ap_PO, a0, a1, hb⟩
            case measure => simp [intOf]; omega
          · go_wp2_with fail
            refine Calls.mono (Ans.eqb (b' := true) (HH.out _ x (r : Int) hst.out hco.out (hR.keep (hb.alloc hb.size _))) h1) ?_
            rintro e w3 ⟨rfl, hbn⟩
            replace a0 := cell_keep a0 hbn
            replace a1 := cell_keep a1 hbn
            replace e0 := cell_keep e0 hbn
            replace e1 := cell_keep e1 hbn
            replace hO := OwnD.keep (World.ownsRow.alloc hO _) hbn
            replace hP := OwnI.keep (World.ownsRow.alloc hP _) hbn
            replace hb := bel_to (hb.alloc hb.size _) hbn
            clear hbn hc2
            go_wp2_with (first | (at_builtin; refine wpList_append_fresh rfl _ _ 27 rfl (w.heap.size + 1) 38 j0 (.agg #[.int .i64 0, .int .i64 0]) 2 16 Tryz.underlying27 hj hy0 hy1 hy2 rfl (by decide) _ _ _ rfl (World.ownsRow.alloc hO _) _ 1 1 [.int .i64 x, .int .i64 (r : Int)] rfl rfl (World.news_of_block (cs := #[.int .i64 x, .int .i64 (r : Int)]) (t := 38) (fr := (0, 0)) (heap_alloc_new _ _)) (by intro u hu; simp at hu; rcases hu with rfl | rfl <;> rfl) (by unfold maxLen; omega) (by omega) (by have := World.block_lt_of_cell? _ _ a1; simp at this; simp; omega) ?_; intro v' w4 hown hgrow hfr; replace hb := (hb.alloc hb.size _).grown hgrow (by have := hb.size; simp; omega) (fun g hg => Nat.le_trans (Nat.le_succ _) (World.ownsRow.lt hO g hg).1); replace a0 := cell_gr (cell_al a0 _) (World.ownsRow.alloc hO _) (by omega) hgrow; replace a1 := cell_gr (cell_al a1 _) (World.ownsRow.alloc hO _) (by omega) hgrow; obtain ⟨hP, ap_PO⟩ := OwnI.past hP hgrow ap_PO hfr; replace hO := own_snocD hown; clear hown hgrow hfr) | fail)
            go_roundw
            case rel => exact ⟨k + 1, by go_num, by omega, by rw [HOs.out, h1]; exact hO, hP, ap_PO, a0, a1, hb⟩
            case measure => simp [intOf]; omega
        · have hkk : k = P.length := by omega
          have HE : Hid (colsG N R m (r + 1) = A ++ colG N R m (P.take k) r) := by
            show colsG N R m (r + 1) = A ++ colG N R m (P.take k) r
            rw [HC.out, hkk, List.take_length]
          clear hkk
          go_wp2
          go_roundw
          case rel => exact ⟨r + 1, by go_num, by omega, by rw [HE.out]; exact hO, hP, ap_PO, a0, a1, hb⟩
          case measure => simp [intOf]; omega
    · have hrr : r = N := by omega
      have HE : Hid (colsG N R m r = minDepsF N R m) := by show colsG N R m r = minDepsF N R m; rw [HM.out, hrr]
      clear hrr
      go_wp2
      go_ret
      exact ⟨_, rfl, by rw [← HE.out]; exact hO.based (Nat.le_succ _), hb⟩
end Go.Proofs.YtcenndlbhgfdfaaGreat
