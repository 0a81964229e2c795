/- Tables: their size, their copy, their comparison. -/
import Derived.Test.YtkanbnbofoabeaaTab
import Derived.Test.YtkanbnbofoabeaaImplies
namespace Go.Proofs.Ytkanbnbofoabeaa
open Go.RowKit
set_option linter.unusedVariables false
set_option maxRecDepth 100000

theorem c_eqIntSS (oa ob) (ca cb : Nat) (R : List (List Int)) (w : World) (hA : RowsAt w oa R) (hB : RowsAt w ob R) :
    Ans Try.prog 71 #[.slice oa R.length ca, .slice ob R.length cb] w (.bool true) := by
  unfold Ans
  have hn : R.length ≤ 1073741824 := hA.len
  have hne : ((R.length : Int) != R.length) = false := by simp
  go_enter Try.func71, Try.ntmps71
  go_wp2
  go_loopw [5] (fun i wr => ∃ k : Nat, i = .int .i64 k ∧ k ≤ R.length ∧ Below w.heap.size w wr) (fun i _ => R.length - (intOf i).toNat)
  case atStart => exact ⟨0, rfl, Nat.zero_le _, Below.refl _ _⟩
  case round =>
    obtain ⟨k, rfl, hk, hb⟩ := hrel
    by_cases hlt : k < R.length
    · obtain ⟨b1, off1, rfl, hbs1, hca⟩ := hA.at_ (by omega)
      obtain ⟨b2, off2, rfl, hbs2, hcb⟩ := hB.at_ (by omega)
      obtain ⟨o1, c1, h1, hr1⟩ := hca k hlt
      obtain ⟨o2, c2, h2, hr2⟩ := hcb k hlt
      have hc1 := cell_keep h1 hb
      have hc2 := cell_keep h2 hb
      have hx1 := fun (x : After wr) => (hr1.keep hb).keep x.bel
      have hx2 := fun (x : After wr) => (hr2.keep hb).keep x.bel
      clear hca hcb h1 h2 hr1 hr2
      go_wp2_with fail
      (refine wp_region_after (by kernel_rfl) (by kernel_rfl) ?_; have q_hc1 := fun (x : After _) => cell_keep hc1 x.bel; have q_hc2 := fun (x : After _) => cell_keep hc2 x.bel; (repeat (go_big_quiet_step ((first | (go_at_call 57; exact Ans.after (Ans.eqb (b' := true) (c_eqIntS _ _ _ _ _ _ _ (hx1 _) (hx2 _)) (by simp))))))); clear q_hc1; clear q_hc2; refine wpQuiet_nil ?_; rintro _ ⟨⟨w1, hbn⟩, rfl⟩; (try simp only [After.w]); replace hc1 := cell_keep hc1 hbn; replace hc2 := cell_keep hc2 hbn; replace hb := bel_to (w := w) (by first | exact hb | exact hb.alloc hb.size _ | exact (hb.alloc hb.size _).alloc (Nat.le_trans hb.size (by simp)) _ | exact hb.setCell (by simp [hb.size]) _) hbn; clear hbn)
      go_wp2
      go_roundw
      case rel => exact ⟨k + 1, by go_num, by omega, hb⟩
      case measure => simp [intOf]; omega
    · go_wp2
      go_ret
      exact ⟨rfl, hb⟩

def tabV (n : Int) (o : Option Addr) (l c : Nat) : Value := .agg #[.int .i64 n, .slice o l c]
theorem c_szTable (n : Int) (oa) (l cap : Nat) (Ln : Nat → Nat) (w : World) (h : RowsIn w oa l Ln) :
    Calls Try.prog 26 #[.agg #[.int .i64 n, .slice oa l cap], .int .i64 1048576] w fun e w' => (∃ x : Int, e = .returned (.int .i64 x) ∧ (x = -1 ∨ (0 ≤ x ∧ x ≤ 1048576 ∧ l ≤ 1048576 ∧ ∀ r, r < l → Ln r ≤ 1048576))) ∧ Below w.heap.size w w' := by
  have hb := (Below.refl w.heap.size w).alloc (Nat.le_refl _) (.cells #[.int .i64 n, .slice oa l cap] 40)
  have h2 : RowsIn (w.alloc (.cells #[.int .i64 n, .slice oa l cap] 40)) oa l Ln := ⟨h.len, fun h0 => by
    obtain ⟨b, off, e, hlt, hr⟩ := h.rows h0
    have hk := (Below.refl w.heap.size w).alloc (Nat.le_refl _) (.cells #[.int .i64 n, .slice oa l cap] 40)
    exact ⟨b, off, e, Nat.lt_of_lt_of_le hlt hk.size, fun r hrl => by
      obtain ⟨m, o, c, h1, h2⟩ := hr r hrl
      exact ⟨m, o, c, cell_keep h1 hk, fun hq => by
        obtain ⟨L, e1, e2⟩ := h2 hq
        exact ⟨L, e1, e2.keep hk⟩⟩⟩⟩
  go_enter Try.func26, Try.ntmps26
  go_wp2_with fail
  refine (c_szIntSS _ _ _ _ _ h2).mono ?_
  rintro e w1 ⟨⟨x, rfl, hx⟩, hbn⟩
  replace hb := bel_to hb hbn
  clear hbn
  rcases hx with rfl | ⟨h0, h1, h3, h4⟩
  · go_wp2
    go_ret
    exact ⟨⟨_, rfl, .inl rfl⟩, hb⟩
  · go_wp2
    go_ret
    exact ⟨⟨_, rfl, .inr ⟨h0, h1, h3, h4⟩⟩, hb⟩
theorem c_eqTable (n : Int) (oa ob) (ca cb : Nat) (R : List (List Int)) (w : World) (hA : RowsAt w oa R) (hB : RowsAt w ob R) :
    Ans Try.prog 21 #[.agg #[.int .i64 n, .slice oa R.length ca], .agg #[.int .i64 n, .slice ob R.length cb]] w (.bool true) := by
  unfold Ans
  have hne : (n != n) = false := by simp
  have hb := ((Below.refl w.heap.size w).alloc (Nat.le_refl _) (.cells #[.int .i64 n, .slice oa R.length ca] 28)).alloc (by simp) (.cells #[.int .i64 n, .slice ob R.length cb] 28)
  go_enter Try.func21, Try.ntmps21
  go_wp2_with (first | (go_at_call 71; refine Calls.mono (c_eqIntSS _ _ _ _ _ _ (hA.keep hb) (hB.keep hb)) ?_; rintro e w1 ⟨rfl, hbn⟩; replace hb := bel_to (w := w) (by first | exact hb | exact hb.alloc hb.size _ | exact (hb.alloc hb.size _).alloc (Nat.le_trans hb.size (by simp)) _ | exact hb.setCell (by simp [hb.size]) _) hbn; clear hbn))
  go_ret
  exact ⟨rfl, hb⟩
theorem c_toTable (n : Int) (oa) (ca : Nat) (R : List (List Int)) (w : World) (hR : RowsAt w oa R) :
    Calls Try.prog 28 #[.agg #[.int .i64 n, .slice oa R.length ca]] w fun e w' => ∃ o c, e = .returned (.agg #[.int .i64 n, .slice o R.length c]) ∧ RowsAt w' o R ∧ Below w.heap.size w w' := by
  have hb0 := ((((Below.refl w.heap.size w).alloc (Nat.le_refl _) (.cells #[.int .i64 n, .slice oa R.length ca] 40)).alloc (by simp) (.cells #[.int .i64 0, .slice none 0 0] 28)).alloc (by simp; omega) (.cells #[.int .i64 n, .slice none 0 0] 28))
  go_enter Try.func28, Try.ntmps28
  go_wp2_with fail
  refine (c_toIntSS _ _ _ _ (hR.keep hb0)).mono ?_
  rintro e w1 ⟨o, c, rfl, hN, hbn⟩
  have k1 : Blk w1 (w.heap.size + 1) #[.int .i64 0, .slice none 0 0] 28 := by
    have := (Blk.new (w.alloc (.cells #[.int .i64 n, .slice oa R.length ca] 40)) #[.int .i64 0, .slice none 0 0] 28).alloc (.cells #[.int .i64 n, .slice none 0 0] 28)
    simp only [World.size_alloc] at this
    exact this.keep hbn
  have k2 : Blk w1 (w.heap.size + 1 + 1) #[.int .i64 n, .slice none 0 0] 28 := by
    have := Blk.new ((w.alloc (.cells #[.int .i64 n, .slice oa R.length ca] 40)).alloc (.cells #[.int .i64 0, .slice none 0 0] 28)) #[.int .i64 n, .slice none 0 0] 28
    simp only [World.size_alloc] at this
    exact this.keep hbn
  have a10 := k1.cell 0 _ rfl
  have a11 := k1.cell 1 _ rfl
  have f10 := k1.free 0
  have f11 := k1.free 1
  have a20 := k2.cell 0 _ rfl
  have a21 := k2.cell 1 _ rfl
  have f20 := k2.free 0
  have f21 := k2.free 1
  replace hb0 := bel_to hb0 hbn
  clear hbn k1 k2
  go_wp2
  exact bodyPost_ret (v := .agg #[.int .i64 n, .slice o R.length c]) (by simp [results, Try.results28, go_sem, a10, a11, a20, a21]) rfl
    ⟨o, c, rfl, (((hN.far 1 _ (by simp)).far 0 _ (by simp)).far 1 _ (by simp)).rows, Below.setCell (Below.setCell (Below.setCell hb0 (by simp; omega) _) (by simp) _) (by simp) _⟩
end Go.Proofs.Ytkanbnbofoabeaa
