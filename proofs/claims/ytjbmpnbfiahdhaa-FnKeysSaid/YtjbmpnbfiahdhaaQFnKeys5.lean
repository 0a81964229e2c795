/- Contracts and lemmas for FnKeys, part 5 of 6. -/
import Derived.Test.YtjbmpnbfiahdhaaQFnKeys1
import Derived.Test.YtjbmpnbfiahdhaaQFnKeys2
import Derived.Test.YtjbmpnbfiahdhaaQFnKeys3
import Derived.Test.YtjbmpnbfiahdhaaQFnKeys4
import Derived.Deep.RegionHeld3
import Derived.Deep.RegionLaw
import Derived.IntWalk
namespace Go.Proofs.Ytjbmpnbfiahdhaa
open Go.RowKit
set_option linter.unusedVariables false
set_option maxRecDepth 100000

theorem c_szIntSSg (oa) (n cap : Nat) (Ln : Nat → Nat) (left : Int) (hl0 : 0 ≤ left) (hl1 : left ≤ 1048576) (w : World) (h : RowsIn w oa n Ln) :
    Calls Try.prog 88 #[.slice oa n cap, .int .i64 left] w fun e w' => (∃ x : Int, e = .returned (.int .i64 x) ∧ (x = -1 ∨ (0 ≤ x ∧ x ≤ left ∧ (n : Int) + sumN Ln n + x = left))) ∧ Below w.heap.size w w' := by
  have hn := h.len
  unfold maxLen at hn
  by_cases hbig : left < n
  · go_enter Try.func88, Try.ntmps88
    go_wp2
    go_ret
    exact ⟨⟨_, rfl, .inl rfl⟩, Below.refl _ _⟩
  go_enter Try.func88, Try.ntmps88
  go_wp2
  go_loopw [1, 5] (fun l i wr => ∃ (x : Int) (k : Nat), l = .int .i64 x ∧ i = .int .i64 k ∧ k ≤ n ∧ 0 ≤ x ∧ x ≤ left ∧ x + (n : Int) + sumN Ln k = left ∧ Below w.heap.size w wr) (fun _ i _ => n - (intOf i).toNat)
  case atStart => exact ⟨_, 0, rfl, rfl, Nat.zero_le _, by omega, by omega, by simp [sumN], Below.refl _ _⟩
  case round =>
    obtain ⟨x, k, rfl, rfl, hk, hx0, hx1, hall, hb⟩ := hrel
    have HA : Hid (x + (n : Int) + sumN Ln k = left) := hall
    have HS : Hid (sumN Ln (k + 1) = sumN Ln k + Ln k) := sumN_succ Ln k
    clear hall
    have hx2 : x ≤ 1048576 := by omega
    by_cases hlt : k < n
    · obtain ⟨b, off, rfl, hbs, hc⟩ := h.rows (by omega)
      obtain ⟨hm, o, c, hc0, _⟩ := hc k hlt
      have hc1 := cell_keep hc0 hb
      clear hc hc0
      by_cases hle : (Ln k : Int) ≤ x
      · have e : (if (Ln k : Int) ≤ x then x - Ln k else -1) = x - Ln k := if_pos hle
        go_wp2_with fail
        refine (show Ans _ _ _ _ (.int .i64 (x - Ln k)) from e ▸ c_szIntS _ _ _ _ ⟨hx0, hx2⟩ hm _).mono ?_
        rintro en w1 ⟨rfl, hbn⟩
        replace hb := bel_to hb hbn
        clear hbn e
        go_wp2
        go_roundw
        case rel => exact ⟨x - Ln k, k + 1, rfl, by go_num, by omega, by omega, by omega, (by have h1 := HA.out; have h2 := HS.out; omega), hb⟩
        case measure => simp [intOf]; omega
      · have e : (if (Ln k : Int) ≤ x then x - Ln k else -1) = -1 := if_neg hle
        go_wp2_with fail
        refine (show Ans _ _ _ _ (.int .i64 (-1)) from e ▸ c_szIntS _ _ _ _ ⟨hx0, hx2⟩ hm _).mono ?_
        rintro en w1 ⟨rfl, hbn⟩
        replace hb := bel_to hb hbn
        clear hbn e
        go_wp2
        go_ret
        exact ⟨⟨_, rfl, .inl rfl⟩, hb⟩
    · have hkk : k = n := by omega
      have HK : Hid (k = n) := hkk
      clear hkk
      go_wp2
      go_ret
      exact ⟨⟨_, rfl, .inr ⟨hx0, by omega, (by have h1 := HA.out; have h2 := HK.out; rw [h2] at h1; omega)⟩⟩, hb⟩
theorem c_szTableg (n : Int) (oa) (l cap : Nat) (Ln : Nat → Nat) (left : Int) (hl0 : 0 ≤ left) (hl1 : left ≤ 1048576) (w : World) (h : RowsIn w oa l Ln) :
    Calls Try.prog 19 #[.agg #[.int .i64 n, .slice oa l cap], .int .i64 left] w fun e w' => (∃ x : Int, e = .returned (.int .i64 x) ∧ (x = -1 ∨ (0 ≤ x ∧ x ≤ left ∧ (l : Int) + sumN Ln l + x = left))) ∧ Below w.heap.size w w' := by
  have hb := (Below.refl w.heap.size w).alloc (Nat.le_refl _) (.cells #[.int .i64 n, .slice oa l cap] 36)
  go_enter Try.func19, Try.ntmps19
  go_wp2_with fail
  refine (c_szIntSSg _ _ _ _ left hl0 hl1 _ (h.keep hb)).mono ?_
  rintro e w1 ⟨⟨x, rfl, hx⟩, hbn⟩
  replace hb := bel_to hb hbn
  clear hbn
  rcases hx with rfl | ⟨h0, h1, h3⟩
  · go_wp2
    go_ret
    exact ⟨⟨_, rfl, .inl rfl⟩, hb⟩
  · have H3 : Hid ((l : Int) + sumN Ln l + x = left) := h3
    clear h3
    go_wp2
    go_ret
    exact ⟨⟨_, rfl, .inr ⟨h0, h1, H3.out⟩⟩, hb⟩
theorem c_szSearch (n m a t : Int) (oa) (l cap : Nat) (Ln : Nat → Nat) (od) (ld cd : Nat) (left : Int) (hl0 : 0 ≤ left) (hl1 : left ≤ 1048576) (w : World) (h : RowsIn w oa l Ln) (hmD : ld ≤ maxLen) :
    Calls Try.prog 26 #[.agg #[.int .i64 n, .slice oa l cap, .int .i64 m, .int .i64 a, .slice od ld cd, .int .i64 t], .int .i64 left] w fun e w' => (∃ x : Int, e = .returned (.int .i64 x) ∧ (x = -1 ∨ (0 ≤ x ∧ x ≤ left ∧ (l : Int) + sumN Ln l ≤ left ∧ (ld : Int) ≤ left))) ∧ Below w.heap.size w w' := by
  have hb := (Below.refl w.heap.size w).alloc (Nat.le_refl _) (.cells #[.int .i64 n, .slice oa l cap, .int .i64 m, .int .i64 a, .slice od ld cd, .int .i64 t] 47)
  have b4 := box_at w #[.int .i64 n, .slice oa l cap, .int .i64 m, .int .i64 a, .slice od ld cd, .int .i64 t] 47 4 _ rfl
  go_enter Try.func26, Try.ntmps26
  go_wp2_with fail
  refine (c_szTableg n _ _ _ _ left hl0 hl1 _ (h.keep hb)).mono ?_
  rintro e w1 ⟨⟨x, rfl, hx⟩, hbn⟩
  replace b4 := cell_keep b4 hbn
  replace hb := bel_to hb hbn
  clear hbn
  rcases hx with rfl | ⟨h0, h1, h3⟩
  · go_wp2
    go_ret
    exact ⟨⟨_, rfl, .inl rfl⟩, hb⟩
  · have H3 : Hid ((l : Int) + sumN Ln l + x = left) := h3
    clear h3
    have hx1 : x ≤ 1048576 := by omega
    by_cases big : x < (ld : Int)
    · go_wp2_with fail
      refine Calls.mono (c_szDepS_no _ _ _ _ ⟨h0, hx1⟩ big hmD _) ?_
      rintro e w2 ⟨rfl, hbn⟩
      replace hb := bel_to hb hbn
      clear hbn
      go_wp2
      go_ret
      exact ⟨⟨_, rfl, .inl rfl⟩, hb⟩
    · have hy0 : 0 ≤ x - (ld : Int) := by omega
      go_wp2_with fail
      refine Calls.mono (c_szDepS_ok _ _ _ _ hx1 (by omega) _) ?_
      rintro e w2 ⟨rfl, hbn⟩
      replace hb := bel_to hb hbn
      clear hbn
      go_wp2
      go_ret
      exact ⟨⟨_, rfl, .inr ⟨by omega, by omega, by have := H3.out; omega, by have := H3.out; omega⟩⟩, hb⟩
theorem c_eqSearch (A B : Sr) (oa ob fa fb) (ca cb fca fcb : Nat) (w : World) (hA : RowsAt w oa A.R) (hB : RowsAt w ob B.R) (hC : DepsAt w fa A.F) (hD : DepsAt w fb B.F) (e : A = B) :
    Ans Try.prog 23 #[.agg #[.int .i64 A.n, .slice oa A.R.length ca, .int .i64 A.m, .int .i64 A.a, .slice fa A.F.length fca, .int .i64 A.t], .agg #[.int .i64 B.n, .slice ob B.R.length cb, .int .i64 B.m, .int .i64 B.a, .slice fb B.F.length fcb, .int .i64 B.t]] w (.bool true) := by
  subst e
  unfold Ans
  have hb := bel2 w (.cells #[.int .i64 A.n, .slice oa A.R.length ca, .int .i64 A.m, .int .i64 A.a, .slice fa A.F.length fca, .int .i64 A.t] 39) (.cells #[.int .i64 A.n, .slice ob A.R.length cb, .int .i64 A.m, .int .i64 A.a, .slice fb A.F.length fcb, .int .i64 A.t] 39)
  have x2 := two_a w #[.int .i64 A.n, .slice oa A.R.length ca, .int .i64 A.m, .int .i64 A.a, .slice fa A.F.length fca, .int .i64 A.t] 39 #[.int .i64 A.n, .slice ob A.R.length cb, .int .i64 A.m, .int .i64 A.a, .slice fb A.F.length fcb, .int .i64 A.t] 39 2 _ rfl
  have x3 := two_a w #[.int .i64 A.n, .slice oa A.R.length ca, .int .i64 A.m, .int .i64 A.a, .slice fa A.F.length fca, .int .i64 A.t] 39 #[.int .i64 A.n, .slice ob A.R.length cb, .int .i64 A.m, .int .i64 A.a, .slice fb A.F.length fcb, .int .i64 A.t] 39 3 _ rfl
  have x4 := two_a w #[.int .i64 A.n, .slice oa A.R.length ca, .int .i64 A.m, .int .i64 A.a, .slice fa A.F.length fca, .int .i64 A.t] 39 #[.int .i64 A.n, .slice ob A.R.length cb, .int .i64 A.m, .int .i64 A.a, .slice fb A.F.length fcb, .int .i64 A.t] 39 4 _ rfl
  have x5 := two_a w #[.int .i64 A.n, .slice oa A.R.length ca, .int .i64 A.m, .int .i64 A.a, .slice fa A.F.length fca, .int .i64 A.t] 39 #[.int .i64 A.n, .slice ob A.R.length cb, .int .i64 A.m, .int .i64 A.a, .slice fb A.F.length fcb, .int .i64 A.t] 39 5 _ rfl
  have y2 := two_b w #[.int .i64 A.n, .slice oa A.R.length ca, .int .i64 A.m, .int .i64 A.a, .slice fa A.F.length fca, .int .i64 A.t] 39 #[.int .i64 A.n, .slice ob A.R.length cb, .int .i64 A.m, .int .i64 A.a, .slice fb A.F.length fcb, .int .i64 A.t] 39 2 _ rfl
  have y3 := two_b w #[.int .i64 A.n, .slice oa A.R.length ca, .int .i64 A.m, .int .i64 A.a, .slice fa A.F.length fca, .int .i64 A.t] 39 #[.int .i64 A.n, .slice ob A.R.length cb, .int .i64 A.m, .int .i64 A.a, .slice fb A.F.length fcb, .int .i64 A.t] 39 3 _ rfl
  have y4 := two_b w #[.int .i64 A.n, .slice oa A.R.length ca, .int .i64 A.m, .int .i64 A.a, .slice fa A.F.length fca, .int .i64 A.t] 39 #[.int .i64 A.n, .slice ob A.R.length cb, .int .i64 A.m, .int .i64 A.a, .slice fb A.F.length fcb, .int .i64 A.t] 39 4 _ rfl
  have y5 := two_b w #[.int .i64 A.n, .slice oa A.R.length ca, .int .i64 A.m, .int .i64 A.a, .slice fa A.F.length fca, .int .i64 A.t] 39 #[.int .i64 A.n, .slice ob A.R.length cb, .int .i64 A.m, .int .i64 A.a, .slice fb A.F.length fcb, .int .i64 A.t] 39 5 _ rfl
  have e1 : (A.m != A.m) = false := by simp
  have e2 : (A.a != A.a) = false := by simp
  have e3 : (A.t != A.t) = false := by simp
  go_enter Try.func23, Try.ntmps23
  go_wp2_with (first | (go_at_call 14; refine Calls.mono (c_eqTable _ _ _ _ _ _ _ (hA.keep hb) (hB.keep hb)) ?_; rintro e w1 ⟨rfl, hbn⟩; replace x2 := cell_keep x2 hbn; replace x3 := cell_keep x3 hbn; replace x4 := cell_keep x4 hbn; replace x5 := cell_keep x5 hbn; replace y2 := cell_keep y2 hbn; replace y3 := cell_keep y3 hbn; replace y4 := cell_keep y4 hbn; replace y5 := cell_keep y5 hbn; replace hb := bel_to (w := w) (by first | exact hb | exact hb.alloc hb.size _ | exact (hb.alloc hb.size _).alloc (Nat.le_trans hb.size (by simp)) _ | exact hb.setCell (by simp [hb.size]) _) hbn; clear hbn) | (go_at_call 15; refine Calls.mono (Ans.eqb (b' := true) (c_eqDepS _ _ _ _ _ _ _ (hC.keep hb) (hD.keep hb)) (by simp)) ?_; rintro e w1 ⟨rfl, hbn⟩; replace x2 := cell_keep x2 hbn; replace x3 := cell_keep x3 hbn; replace x4 := cell_keep x4 hbn; replace x5 := cell_keep x5 hbn; replace y2 := cell_keep y2 hbn; replace y3 := cell_keep y3 hbn; replace y4 := cell_keep y4 hbn; replace y5 := cell_keep y5 hbn; replace hb := bel_to (w := w) (by first | exact hb | exact hb.alloc hb.size _ | exact (hb.alloc hb.size _).alloc (Nat.le_trans hb.size (by simp)) _ | exact hb.setCell (by simp [hb.size]) _) hbn; clear hbn) | fail)
  go_ret
  exact ⟨rfl, hb⟩
def set8 (w : World) (g k : Nat) (a4 a5 b0 b1 b2 b3 b4 b5 : Value) : World := (((((((w.setCell ⟨g, 4, none⟩ a4).setCell ⟨g, 5, none⟩ a5).setCell ⟨k, 0, none⟩ b0).setCell ⟨k, 1, none⟩ b1).setCell ⟨k, 2, none⟩ b2).setCell ⟨k, 3, none⟩ b3).setCell ⟨k, 4, none⟩ b4).setCell ⟨k, 5, none⟩ b5
theorem far8 {w : World} {B : Nat} {v : Value} {xs : List Value} {R : List (List Int)} (h : OwnRows w B v xs R) {g k : Nat} (hg : g < B) (hk : k < B) (a4 a5 b0 b1 b2 b3 b4 b5 : Value) : OwnRows (set8 w g k a4 a5 b0 b1 b2 b3 b4 b5) B v xs R :=
  (((((((h.far_set 4 a4 hg).far_set 5 a5 hg).far_set 0 b0 hk).far_set 1 b1 hk).far_set 2 b2 hk).far_set 3 b3 hk).far_set 4 b4 hk).far_set 5 b5 hk
theorem OwnD.far_set {w : World} {B g : Nat} {v : Value} {D : List (Int × Int)} (h : OwnD w B v D) (j : Nat) (u : Value) (hg : g < B) : OwnD (w.setCell ⟨g, j, none⟩ u) B v D := ownsRow_setCell_below h (a := ⟨g, j, none⟩) hg u
theorem dar8 {w : World} {B : Nat} {v : Value} {D : List (Int × Int)} (h : OwnD w B v D) {g k : Nat} (hg : g < B) (hk : k < B) (a4 a5 b0 b1 b2 b3 b4 b5 : Value) : OwnD (set8 w g k a4 a5 b0 b1 b2 b3 b4 b5) B v D :=
  (((((((OwnD.far_set h 4 a4 hg).far_set 5 a5 hg).far_set 0 b0 hk).far_set 1 b1 hk).far_set 2 b2 hk).far_set 3 b3 hk).far_set 4 b4 hk).far_set 5 b5 hk
theorem bar8 {w0 w : World} {B : Nat} (h : Below B w0 w) {g k : Nat} (hg : B ≤ g) (hk : B ≤ k) (a4 a5 b0 b1 b2 b3 b4 b5 : Value) : Below B w0 (set8 w g k a4 a5 b0 b1 b2 b3 b4 b5) :=
  Below.setCell (p := ⟨k, 5, none⟩) (Below.setCell (p := ⟨k, 4, none⟩) (Below.setCell (p := ⟨k, 3, none⟩) (Below.setCell (p := ⟨k, 2, none⟩) (Below.setCell (p := ⟨k, 1, none⟩) (Below.setCell (p := ⟨k, 0, none⟩) (Below.setCell (p := ⟨g, 5, none⟩) (Below.setCell (p := ⟨g, 4, none⟩) h hg a4) hg a5) hk b0) hk b1) hk b2) hk b3) hk b4) hk b5
def srZ : Array Value := #[.int .i64 0, .slice none 0 0, .int .i64 0, .int .i64 0, .slice none 0 0, .int .i64 0]
set_option maxHeartbeats 1600000 in
theorem c_toSearch (A : Sr) (oa fa) (ca fca : Nat) (w : World) (hA : RowsAt w oa A.R) (hC : DepsAt w fa A.F) :
    Calls Try.prog 28 #[.agg #[.int .i64 A.n, .slice oa A.R.length ca, .int .i64 A.m, .int .i64 A.a, .slice fa A.F.length fca, .int .i64 A.t]] w fun e w' => ∃ o c fo fc xs, e = .returned (.agg #[.int .i64 A.n, .slice o A.R.length c, .int .i64 A.m, .int .i64 A.a, .slice fo A.F.length fc, .int .i64 A.t]) ∧ OwnRows w' w.heap.size (.slice o A.R.length c) xs A.R ∧ OwnD w' w.heap.size (.slice fo A.F.length fc) A.F ∧ ApartR (.slice o A.R.length c) xs (.slice fo A.F.length fc) ∧ Below w.heap.size w w' := by
  have hb0 := ((((Below.refl w.heap.size w).alloc (Nat.le_refl _) (.cells #[.int .i64 A.n, .slice oa A.R.length ca, .int .i64 A.m, .int .i64 A.a, .slice fa A.F.length fca, .int .i64 A.t] 47)).alloc (by simp) (.cells srZ 39)).alloc (by simp; omega) (.cells srZ 39))
  unfold srZ at hb0
  go_enter Try.func28, Try.ntmps28
  go_wp2_with fail
  refine (c_toTableO A.n _ _ A.R _ (hA.keep hb0)).mono ?_
  rintro e w1 ⟨o, c, xs, rfl, hN, hbn⟩
  have kA : Blk w1 w.heap.size #[.int .i64 A.n, .slice oa A.R.length ca, .int .i64 A.m, .int .i64 A.a, .slice fa A.F.length fca, .int .i64 A.t] 47 :=
    (((Blk.new w _ _).alloc _).alloc _).keep hbn
  have kR : Blk w1 (w.heap.size + 1) srZ 39 := by
    have := (Blk.new (w.alloc (.cells #[.int .i64 A.n, .slice oa A.R.length ca, .int .i64 A.m, .int .i64 A.a, .slice fa A.F.length fca, .int .i64 A.t] 47)) srZ 39).alloc (.cells srZ 39)
    simp only [World.size_alloc] at this
    exact this.keep hbn
  have kT : Blk w1 (w.heap.size + 1 + 1) srZ 39 := by
    have := Blk.new ((w.alloc (.cells #[.int .i64 A.n, .slice oa A.R.length ca, .int .i64 A.m, .int .i64 A.a, .slice fa A.F.length fca, .int .i64 A.t] 47)).alloc (.cells srZ 39)) srZ 39
    simp only [World.size_alloc] at this
    exact this.keep hbn
  have p2 := kA.cell 2 _ rfl
  have p3 := kA.cell 3 _ rfl
  have p4 := kA.cell 4 _ rfl
  have t0 := kT.cell 0 _ rfl
  have t1 := kT.cell 1 _ rfl
  have t2 := kT.cell 2 _ rfl
  have t3 := kT.cell 3 _ rfl
  have s0 := kT.free 0
  have s1 := kT.free 1
  have s2 := kT.free 2
  have s3 := kT.free 3
  have hb1 := bel_to hb0 hbn
  have hbD : Below w.heap.size w ((((w1.setCell ⟨w.heap.size + 1 + 1, 0, none⟩ (.int .i64 A.n)).setCell ⟨w.heap.size + 1 + 1, 1, none⟩ (.slice o A.R.length c)).setCell ⟨w.heap.size + 1 + 1, 2, none⟩ (.int .i64 A.m)).setCell ⟨w.heap.size + 1 + 1, 3, none⟩ (.int .i64 A.a)) :=
    Below.setCell (Below.setCell (Below.setCell (Below.setCell hb1 (by simp; omega) _) (by simp; omega) _) (by simp; omega) _) (by simp; omega) _
  have hN2 := (((hN.far_set (g := w.heap.size + 1 + 1) 0 (.int .i64 A.n) (by simp)).far_set (g := w.heap.size + 1 + 1) 1 (.slice o A.R.length c) (by simp)).far_set (g := w.heap.size + 1 + 1) 2 (.int .i64 A.m) (by simp)).far_set (g := w.heap.size + 1 + 1) 3 (.int .i64 A.a) (by simp)
  have kT2 := (((kT.set 0 (.int .i64 A.n)).set 1 (.slice o A.R.length c)).set 2 (.int .i64 A.m)).set 3 (.int .i64 A.a)
  have kR2 := (((kR.far ⟨w.heap.size + 1 + 1, 0, none⟩ (.int .i64 A.n) (by simp)).far ⟨w.heap.size + 1 + 1, 1, none⟩ (.slice o A.R.length c) (by simp)).far ⟨w.heap.size + 1 + 1, 2, none⟩ (.int .i64 A.m) (by simp)).far ⟨w.heap.size + 1 + 1, 3, none⟩ (.int .i64 A.a) (by simp)
  have kA2 := (((kA.far ⟨w.heap.size + 1 + 1, 0, none⟩ (.int .i64 A.n) (by simp; omega)).far ⟨w.heap.size + 1 + 1, 1, none⟩ (.slice o A.R.length c) (by simp; omega)).far ⟨w.heap.size + 1 + 1, 2, none⟩ (.int .i64 A.m) (by simp; omega)).far ⟨w.heap.size + 1 + 1, 3, none⟩ (.int .i64 A.a) (by simp; omega)
  clear hbn kA kR kT hN hb1
  go_wp2_with fail
  refine (c_toDepS _ _ _ _ (hC.keep hbD)).mono ?_
  rintro e w2 ⟨v2, rfl, hO, hbn⟩
  have ap := hN2.fresh hO
  obtain ⟨fo, fc, rfl⟩ := hO.shape
  have hbase : w.heap.size + 1 + 1 + 1 ≤ w1.heap.size := by have h9 := World.block_lt_of_cell? _ _ t0; simp at h9; omega
  replace hO := hO.based (show w.heap.size + 1 + 1 + 1 ≤ _ by simp; omega)
  have hN3 := hN2.keep hbn
  have kT3 := kT2.keep hbn
  have kR3 := kR2.keep hbn
  have kA3 := kA2.keep hbn
  have hb2 := bel_to hbD hbn
  clear hbn hN2 kT2 kR2 kA2 hbD p2 p3 p4 t0 t1 t2 t3 s0 s1 s2 s3
  have p5 := kA3.cell 5 (.int .i64 A.t) rfl
  have t0 := kT3.cell 0 (.int .i64 A.n) rfl
  have t1 := kT3.cell 1 (.slice o A.R.length c) rfl
  have t2 := kT3.cell 2 (.int .i64 A.m) rfl
  have t3 := kT3.cell 3 (.int .i64 A.a) rfl
  have t4 := kT3.cell 4 (.slice none 0 0) rfl
  have t5 := kT3.cell 5 (.int .i64 0) rfl
  have s4 := kT3.free 4
  have s5 := kT3.free 5
  have r0 := kR3.cell 0 (.int .i64 0) rfl
  have r1 := kR3.cell 1 (.slice none 0 0) rfl
  have r2 := kR3.cell 2 (.int .i64 0) rfl
  have r3 := kR3.cell 3 (.int .i64 0) rfl
  have r4 := kR3.cell 4 (.slice none 0 0) rfl
  have r5 := kR3.cell 5 (.int .i64 0) rfl
  have q0 := kR3.free 0
  have q1 := kR3.free 1
  have q2 := kR3.free 2
  have q3 := kR3.free 3
  have q4 := kR3.free 4
  have q5 := kR3.free 5
  clear kT3 kR3 kA3
  go_wp2
  have x1 := far8 hN3 (g := w.heap.size + 1 + 1) (k := w.heap.size + 1) (by simp) (by simp <;> omega) (.slice fo A.F.length fc) (.int .i64 A.t) (.int .i64 A.n) (.slice o A.R.length c) (.int .i64 A.m) (.int .i64 A.a) (.slice fo A.F.length fc) (.int .i64 A.t)
  have x2 := dar8 hO (g := w.heap.size + 1 + 1) (k := w.heap.size + 1) (by omega) (by omega) (.slice fo A.F.length fc) (.int .i64 A.t) (.int .i64 A.n) (.slice o A.R.length c) (.int .i64 A.m) (.int .i64 A.a) (.slice fo A.F.length fc) (.int .i64 A.t)
  have x3 := bar8 hb2 (g := w.heap.size + 1 + 1) (k := w.heap.size + 1) (by omega) (by omega) (.slice fo A.F.length fc) (.int .i64 A.t) (.int .i64 A.n) (.slice o A.R.length c) (.int .i64 A.m) (.int .i64 A.a) (.slice fo A.F.length fc) (.int .i64 A.t)
  exact bodyPost_ret (v := .agg #[.int .i64 A.n, .slice o A.R.length c, .int .i64 A.m, .int .i64 A.a, .slice fo A.F.length fc, .int .i64 A.t]) (by simp [results, Try.results28, go_sem, r0, r1, r2, r3, r4, r5]) rfl
    ⟨o, c, fo, fc, xs, rfl, x1.based (by simp <;> omega), x2.based (by omega), ap, x3⟩
end Go.Proofs.Ytjbmpnbfiahdhaa
namespace Go.Proofs.Ytjbmpnbfiahdhaa
open Go.RowKit Go.Shelf Go.Lib Go.Sort
set_option linter.unusedVariables false
set_option maxRecDepth 100000

theorem c_specMembers (x : Int) (w : World) :
    Calls Try.prog 138 #[.int .i64 x] w fun e w' => ∃ v, e = .returned v ∧ OwnI w' w.heap.size v (membersF x) ∧ Below w.heap.size w w' := by
  obtain ⟨i0, hi, hz0, hz1, hz2⟩ := info_parts info_int
  cases hst : stB x
  · have HM : Hid (membersF x = []) := by unfold membersF; rw [hst]; rfl
    go_enter Try.func138, Try.ntmps138
    go_wp2
    go_loopw [3, 4] (fun v i wr => i = .int .i64 0 ∧ OwnI wr w.heap.size v [] ∧ Below w.heap.size w wr) (fun _ _ _ => 0)
    case atStart => exact ⟨rfl, OwnI.empty _ _ (Nat.le_refl _), (Below.refl _ _).alloc (Nat.le_refl _) _⟩
    case round =>
      obtain ⟨rfl, hI, hb⟩ := hrel
      go_wp2_with (first | (go_at_call 176; refine Calls.mono (Ans.eqb (c_l2Valid _ _) hst) ?_; rintro e w1 ⟨rfl, hbn⟩; replace hI := hI.keep hbn; replace hb := bel_to (w := w) (by first | exact hb | exact hb.alloc hb.size _ | exact (hb.alloc hb.size _).alloc (Nat.le_trans hb.size (by simp)) _ | exact hb.setCell (by simp [hb.size]) _) hbn; clear hbn))
      go_ret
      exact ⟨_, rfl, by rw [HM.out]; exact hI, hb⟩
  · have HM : Hid (membersF x = membersUpTo x 5) := by unfold membersF; rw [hst]; rfl
    have hsx : St x := by simpa [stB] using hst
    go_enter Try.func138, Try.ntmps138
    go_wp2
    go_loopw [3, 4] (fun v i wr => ∃ k : Nat, i = .int .i64 k ∧ k ≤ 5 ∧ OwnI wr w.heap.size v (membersUpTo x k) ∧ Below w.heap.size w wr) (fun _ i _ => 5 - (intOf i).toNat)
    case atStart => exact ⟨0, rfl, Nat.zero_le _, OwnI.empty _ _ (Nat.le_refl _), (Below.refl _ _).alloc (Nat.le_refl _) _⟩
    case round =>
      obtain ⟨k, rfl, hk, hI, hb⟩ := hrel
      have HS := membersUpTo_succ x k
      have hle := membersUpTo_le x k
      have HS2 : Hid (membersUpTo x (k + 1) = membersUpTo x k ++ (if hasc x k then [(k : Int)] else [])) := HS
      clear HS
      by_cases hlt : k < 5
      · have hk64 : 0 ≤ (k : Int) ∧ (k : Int) < 64 := by omega
        cases hh : hasc x k
        · have hk2 : (bits BinOp.and IntKind.i64 (x / 2 ^ k) 1 == 1) = false := hh
          go_wp2_with (first | (go_at_call 176; refine Calls.mono (Ans.eqb (c_l2Valid _ _) hst) ?_; rintro e w1 ⟨rfl, hbn⟩; replace hI := hI.keep hbn; replace hb := bel_to (w := w) (by first | exact hb | exact hb.alloc hb.size _ | exact (hb.alloc hb.size _).alloc (Nat.le_trans hb.size (by simp)) _ | exact hb.setCell (by simp [hb.size]) _) hbn; clear hbn))
          go_roundw
          case rel => exact ⟨k + 1, by go_num, by omega, by rw [HS2.out, hh]; simpa using hI, hb⟩
          case measure => simp [intOf]; omega
        · have hk2 : (bits BinOp.and IntKind.i64 (x / 2 ^ k) 1 == 1) = true := hh
          go_wp2_with (first | (go_at_call 176; refine Calls.mono (Ans.eqb (c_l2Valid _ _) hst) ?_; rintro e w1 ⟨rfl, hbn⟩; replace hI := hI.keep hbn; replace hb := bel_to (w := w) (by first | exact hb | exact hb.alloc hb.size _ | exact (hb.alloc hb.size _).alloc (Nat.le_trans hb.size (by simp)) _ | exact hb.setCell (by simp [hb.size]) _) hbn; clear hbn) | (at_builtin; refine wpList_append_own _ rfl _ _ 68 rfl w.heap.size 3 i0 (.int .i64 0) 1 8 Try.underlying68 hi hz0 hz1 hz2 rfl (by decide) _ _ _ rfl (World.ownsRow.alloc hI _) _ 1 1 [.int .i64 ((k : Int))] rfl rfl (by intro j u hj; match j, hj with | 0, hj => simp at hj; subst hj; simp [Addr.add]) (by intro u hu; simp at hu; subst hu; rfl) (by unfold maxLen; omega) (by omega) (by have := hb.size; simp; omega) ?_; intro v' w1 hown hgrow _; replace hb := (hb.alloc hb.size _).grown hgrow (by have := hb.size; simp; omega) (fun g hg => (World.ownsRow.lt hI g hg).1); replace hI := OwnI.snoc hown; clear hown hgrow))
          go_roundw
          case rel => exact ⟨k + 1, by go_num, by omega, by rw [HS2.out, hh]; exact hI, hb⟩
          case measure => simp [intOf]; omega
      · have hkk : k = 5 := by omega
        have HK : Hid (k = 5) := hkk
        clear hkk
        go_wp2_with (first | (go_at_call 176; refine Calls.mono (Ans.eqb (c_l2Valid _ _) hst) ?_; rintro e w1 ⟨rfl, hbn⟩; replace hI := hI.keep hbn; replace hb := bel_to (w := w) (by first | exact hb | exact hb.alloc hb.size _ | exact (hb.alloc hb.size _).alloc (Nat.le_trans hb.size (by simp)) _ | exact hb.setCell (by simp [hb.size]) _) hbn; clear hbn))
        go_ret
        exact ⟨_, rfl, by rw [HM.out, ← HK.out]; exact hI, hb⟩

theorem c_specCountMembers (x : Int) (w : World) : Ans Try.prog 137 #[.int .i64 x] w (.int .i64 (membersF x).length) := by
  unfold Ans
  have hl := members_len x
  go_enter Try.func137, Try.ntmps137
  go_wp2_with fail
  refine (c_specMembers x _).mono ?_
  rintro e w1 ⟨v1, rfl, hM, hb⟩
  generalize hMM : membersF x = M at *
  have HMM : Hid (membersF x = M) := hMM
  clear hMM
  obtain ⟨o1, c1, rfl⟩ := hM.shape
  go_wp2
  go_ret
  exact ⟨ret_int (by rw [HMM.out]), hb⟩
def szP (s : Nat) (x : Int) : Bool := ((membersF x).length : Int) == s
def bySize (n s : Nat) : List Int := (List.range s).flatMap fun t => flt (szP t) (2 ^ n)
theorem bySize_succ (n s : Nat) : bySize n (s + 1) = bySize n s ++ flt (szP s) (2 ^ n) := by unfold bySize; rw [List.range_succ, List.flatMap_append]; simp
theorem bySize_len (n s : Nat) (hn : n ≤ 5) : (bySize n s).length ≤ 32 * s := by
  induction s with
  | zero => simp [bySize]
  | succ s ih =>
    rw [bySize_succ, List.length_append]
    have := flt_le (szP s) (2 ^ n)
    have h : ∀ n < 6, 2 ^ n ≤ 32 := by decide
    have := h n (by omega)
    omega
def keyS (x : Fin 32) : Int := (pcN x.val : Int) * 32 + (x.val : Int)
theorem keyS_lt (x y : Fin 32) : ltOf cfS x y = decide (keyS x < keyS y) := by
  rw [ltS, decide_eq_decide]
  have h1 := x.isLt
  have h2 := y.isLt
  unfold keyS
  constructor <;> intro h <;> omega
theorem keyS_inj {x y : Fin 32} (h : keyS x = keyS y) : x = y := by
  have h1 := x.isLt
  have h2 := y.isLt
  unfold keyS at h
  exact Fin.ext (by omega)
theorem sortS_up {L : List (Fin 32)} (hd : L.Nodup) : Up ((sortS L).map keyS) := by
  unfold Up
  rw [List.pairwise_map]
  have h1 := List.pairwise_mergeSort (le := fun (x y : Fin 32) => !(ltOf cfS) y x) (fun a b c h1 h2 => by
    simp only [keyS_lt, Bool.not_eq_true', decide_eq_false_iff_not] at *; omega) (fun a b => by
    simp only [keyS_lt, Bool.or_eq_true, Bool.not_eq_true', decide_eq_false_iff_not]; omega) L
  have h2 : (sortS L).Nodup := (List.mergeSort_perm L _).nodup_iff.2 hd
  have h3 := h1.and h2
  refine h3.imp ?_
  rintro a b ⟨h, hne⟩
  simp only [keyS_lt, Bool.not_eq_true', decide_eq_false_iff_not] at h
  have : keyS a ≠ keyS b := fun e => hne (keyS_inj e)
  omega
def byF (n : Nat) : List (Fin 32) := (List.range (n + 1)).flatMap fun s => (finsB (2 ^ n)).filter fun x => pcN x.val == s
theorem byF_up : ∀ n < 6, Up ((byF n).map keyS) := by unfold Up; decide +kernel
theorem byF_mem : ∀ n < 6, ∀ x : Fin 32, x ∈ byF n ↔ x ∈ finsB (2 ^ n) := by decide +kernel
theorem byF_val : ∀ n < 6, valS (byF n) = bySize n (n + 1) := by decide +kernel
theorem finsB_nodup : ∀ n < 6, (finsB (2 ^ n)).Nodup := by decide +kernel
theorem map_inj : ∀ {A B : List (Fin 32)}, A.map keyS = B.map keyS → A = B
  | [], [], _ => rfl
  | [], b :: B, h => by simp at h
  | a :: A, [], h => by simp at h
  | a :: A, b :: B, h => by
    simp only [List.map_cons, List.cons.injEq] at h
    rw [keyS_inj h.1, map_inj h.2]
theorem parts_bySize (n : Nat) (hn : n ≤ 5) : partsF n = bySize n (n + 1) := by
  unfold partsF
  rw [if_pos ⟨by omega, by omega⟩, Int.toNat_natCast, ← byF_val n (by omega)]
  congr 1
  refine map_inj (up_ext (sortS_up (finsB_nodup n (by omega))) (byF_up n (by omega)) fun z => ?_)
  rw [List.mem_map, List.mem_map]
  constructor
  · rintro ⟨x, hx, e⟩; exact ⟨x, (byF_mem n (by omega) x).2 ((List.mergeSort_perm _ _).mem_iff.1 hx), e⟩
  · rintro ⟨x, hx, e⟩; exact ⟨x, (List.mergeSort_perm _ _).mem_iff.2 ((byF_mem n (by omega) x).1 hx), e⟩
set_option maxHeartbeats 800000 in
theorem c_specPartsBySize (n : Int) (w : World) :
    Calls Try.prog 147 #[.int .i64 n] w fun e w' => ∃ v, e = .returned v ∧ OwnI w' w.heap.size v (partsF n) ∧ Below w.heap.size w w' := by
  obtain ⟨i0, hi, hz0, hz1, hz2⟩ := info_parts info_int
  have hb := (Below.refl w.heap.size w).alloc (Nat.le_refl _) (.cells #[] 3)
  have hI := OwnI.empty w w.heap.size (Nat.le_refl _)
  by_cases hok : 0 ≤ n ∧ n ≤ 5
  case neg =>
    have HM : Hid (partsF n = []) := by show partsF n = []; unfold partsF; rw [if_neg hok]
    have hin : inB n 0 5 = false := by simp [inB]; omega
    go_enter Try.func147, Try.ntmps147
    go_wp2
    go_loopw [3, 4] (fun v i wr => i = .int .i64 0 ∧ OwnI wr w.heap.size v [] ∧ Below w.heap.size w wr) (fun _ _ _ => 0)
    case atStart => exact ⟨rfl, hI, hb⟩
    case round =>
      clear hI hb
      obtain ⟨rfl, hI, hb⟩ := hrel
      by_cases h0 : 0 ≤ n
      · go_wp2_with (first | (go_at_call 109; refine Calls.mono (Ans.eqb (c_l1In _ _ _ _) hin) ?_; rintro e w1 ⟨rfl, hbn⟩; replace hI := hI.keep hbn; replace hb := bel_to (w := w) (by first | exact hb | exact hb.alloc hb.size _ | exact (hb.alloc hb.size _).alloc (Nat.le_trans hb.size (by simp)) _ | exact hb.setCell (by simp [hb.size]) _) hbn; clear hbn))
        go_ret
        exact ⟨_, rfl, by rw [HM.out]; exact hI, hb⟩
      · go_wp2
        go_ret
        exact ⟨_, rfl, by rw [HM.out]; exact hI, hb⟩
  obtain ⟨N, rfl⟩ := Int.eq_ofNat_of_zero_le hok.1
  have hN5 : N ≤ 5 := by omega
  have HM : Hid (partsF N = bySize N (N + 1)) := parts_bySize N hN5
  have hin : inB N 0 5 = true := by simp [inB]; omega
  have hn01 : 0 ≤ (N : Int) ∧ (N : Int) ≤ 5 := by omega
  have hp32 : 2 ^ N ≤ 32 := by
    have h : ∀ n < 6, 2 ^ n ≤ 32 := by decide
    exact h N (by omega)
  have hAll : allM (N : Int) = ((2 ^ N : Nat) : Int) - 1 := by unfold allM; rw [Int.toNat_natCast]; push_cast; rfl
  generalize hQ : 2 ^ N = Q at *
  have HBS : Hid (∀ s, bySize N (s + 1) = bySize N s ++ flt (szP s) Q) := fun s => by rw [← hQ]; exact bySize_succ N s
  clear hok
  go_enter Try.func147, Try.ntmps147
  go_wp2
  go_loopw [3, 4] (fun v i wr => ∃ s : Nat, i = .int .i64 s ∧ s ≤ N + 1 ∧ OwnI wr w.heap.size v (bySize N s) ∧ Below w.heap.size w wr) (fun _ i _ => N + 1 - (intOf i).toNat)
  case atStart => exact ⟨0, rfl, Nat.zero_le _, by simpa [bySize] using hI, hb⟩
  case round =>
    clear hI hb
    obtain ⟨s, rfl, hs, hI, hb⟩ := hrel
    have hbl := bySize_len N s hN5
    by_cases hlt : s ≤ N
    · have hB : Hid (bySize N (s + 1) = bySize N s ++ flt (szP s) Q) := HBS.out s
      generalize bySize N s = F at *
      go_wp2_with (first | (go_at_call 109; refine Calls.mono (Ans.eqb (c_l1In _ _ _ _) hin) ?_; rintro e w1 ⟨rfl, hbn⟩; replace hI := hI.keep hbn; replace hb := bel_to (w := w) (by first | exact hb | exact hb.alloc hb.size _ | exact (hb.alloc hb.size _).alloc (Nat.le_trans hb.size (by simp)) _ | exact hb.setCell (by simp [hb.size]) _) hbn; clear hbn))
      go_loopw [3, 5] (fun v i wr => ∃ k : Nat, i = .int .i64 k ∧ k ≤ Q ∧ OwnI wr w.heap.size v (F ++ flt (szP s) k) ∧ Below w.heap.size w wr) (fun _ i _ => Q - (intOf i).toNat)
      case atStart => exact ⟨0, rfl, Nat.zero_le _, by simpa [flt] using hI, hb⟩
      case round =>
        clear hI hb
        obtain ⟨k, rfl, hk, hI, hb⟩ := hrel
        have hfk := flt_le (szP s) k
        have hfl : (F ++ flt (szP s) k).length ≤ 300 := by rw [List.length_append]; omega
        by_cases hlk : k < Q
        · have hd : decide ((k : Int) ≤ (Q : Int) - 1) = true := by simp; omega
          have HS : Hid (flt (szP s) (k + 1) = flt (szP s) k ++ (if szP s k then [(k : Int)] else [])) := flt_succ _ k
          have HA : Hid (F ++ flt (szP s) (k + 1) = (F ++ flt (szP s) k) ++ (if szP s k then [(k : Int)] else [])) := by
            show F ++ flt (szP s) (k + 1) = (F ++ flt (szP s) k) ++ (if szP s k then [(k : Int)] else [])
            rw [HS.out, List.append_assoc]
          have hml := members_len (k : Int)
          have HZ : Hid (szP s (k : Int) = (((membersF (k : Int)).length : Int) == s)) := rfl
          clear HS
          generalize F ++ flt (szP s) k = F2 at *
          cases hz : (((membersF (k : Int)).length : Int) == s)
          · go_wp2_with (first | (go_at_call 80; refine Calls.mono (c_l2All _ hn01 _) ?_; rintro e w1 ⟨rfl, hbn⟩; replace hI := hI.keep hbn; replace hb := bel_to (w := w) (by first | exact hb | exact hb.alloc hb.size _ | exact (hb.alloc hb.size _).alloc (Nat.le_trans hb.size (by simp)) _ | exact hb.setCell (by simp [hb.size]) _) hbn; clear hbn) | (go_at_call 137; refine Calls.mono (c_specCountMembers _ _) ?_; rintro e w1 ⟨rfl, hbn⟩; replace hI := hI.keep hbn; replace hb := bel_to (w := w) (by first | exact hb | exact hb.alloc hb.size _ | exact (hb.alloc hb.size _).alloc (Nat.le_trans hb.size (by simp)) _ | exact hb.setCell (by simp [hb.size]) _) hbn; clear hbn) | fail)
            go_roundw
            case rel => exact ⟨k + 1, by go_num, by omega, by rw [HA.out, HZ.out, hz]; simpa using hI, hb⟩
            case measure => simp [intOf]; omega
          · go_wp2_with (first | (go_at_call 80; refine Calls.mono (c_l2All _ hn01 _) ?_; rintro e w1 ⟨rfl, hbn⟩; replace hI := hI.keep hbn; replace hb := bel_to (w := w) (by first | exact hb | exact hb.alloc hb.size _ | exact (hb.alloc hb.size _).alloc (Nat.le_trans hb.size (by simp)) _ | exact hb.setCell (by simp [hb.size]) _) hbn; clear hbn) | (go_at_call 137; refine Calls.mono (c_specCountMembers _ _) ?_; rintro e w1 ⟨rfl, hbn⟩; replace hI := hI.keep hbn; replace hb := bel_to (w := w) (by first | exact hb | exact hb.alloc hb.size _ | exact (hb.alloc hb.size _).alloc (Nat.le_trans hb.size (by simp)) _ | exact hb.setCell (by simp [hb.size]) _) hbn; clear hbn) | (at_builtin; refine wpList_append_own _ rfl _ _ 68 rfl w.heap.size 3 i0 (.int .i64 0) 1 8 Try.underlying68 hi hz0 hz1 hz2 rfl (by decide) _ _ _ rfl (World.ownsRow.alloc hI _) _ 1 1 [.int .i64 ((k : Int))] rfl rfl (by intro j u hj; match j, hj with | 0, hj => simp at hj; subst hj; simp [Addr.add]) (by intro u hu; simp at hu; subst hu; rfl) (by unfold maxLen; omega) (by omega) (by have := hb.size; simp; omega) ?_; intro v' w1 hown hgrow _; replace hb := (hb.alloc hb.size _).grown hgrow (by have := hb.size; simp; omega) (fun g hg => (World.ownsRow.lt hI g hg).1); replace hI := OwnI.snoc hown; clear hown hgrow) | fail)
            go_roundw
            case rel => exact ⟨k + 1, by go_num, by omega, by rw [HA.out, HZ.out, hz]; exact hI, hb⟩
            case measure => simp [intOf]; omega
        · have hkk : k = Q := by omega
          have HA : Hid (bySize N (s + 1) = F ++ flt (szP s) k) := by show bySize N (s + 1) = F ++ flt (szP s) k; rw [hB.out, hkk]
          have hd : decide ((k : Int) ≤ (Q : Int) - 1) = false := by simp; omega
          clear hkk
          go_wp2_with (first | (go_at_call 80; refine Calls.mono (c_l2All _ hn01 _) ?_; rintro e w1 ⟨rfl, hbn⟩; replace hI := hI.keep hbn; replace hb := bel_to (w := w) (by first | exact hb | exact hb.alloc hb.size _ | exact (hb.alloc hb.size _).alloc (Nat.le_trans hb.size (by simp)) _ | exact hb.setCell (by simp [hb.size]) _) hbn; clear hbn) | fail)
          go_roundw
          case rel => exact ⟨s + 1, by go_num, by omega, by rw [HA.out]; exact hI, hb⟩
          case measure => simp [intOf]; omega
    · have hss : s = N + 1 := by omega
      have HE : Hid (bySize N s = partsF N) := by show bySize N s = partsF N; rw [hss, HM.out]
      clear hss
      go_wp2
      go_ret
      exact ⟨_, rfl, by rw [← HE.out]; exact hI, hb⟩
end Go.Proofs.Ytjbmpnbfiahdhaa
namespace Go.Proofs.Ytjbmpnbfiahdhaa
open Go.RowKit
set_option linter.unusedVariables false
set_option maxRecDepth 100000

def anyIns (T : List Int) (x : Int) : Bool := T.any fun y => ins y x
def stepM (p : Int → Int → Bool) (r : Int) (T : List Int) (x : Int) : List Int := if (!hasc x r && !anyIns T x) && p x r then T ++ [x] else T
def takenF (p : Int → Int → Bool) (r : Int) (L : List Int) : List Int := L.foldl (stepM p r) []
def colF (p : Int → Int → Bool) (P : List Int) (r : Int) : List (Int × Int) := (takenF p r P).map fun x => (x, r)
def colsF (p : Int → Int → Bool) (P : List Int) (n : Nat) : List (Int × Int) := (List.range n).flatMap fun (r : Nat) => colF p P (r : Int)
theorem taken_succ (p : Int → Int → Bool) (r : Int) {L : List Int} {k : Nat} (h : k < L.length) : takenF p r (L.take (k + 1)) = stepM p r (takenF p r (L.take k)) (nth L k) := by
  unfold takenF
  rw [List.take_add_one, nth_eq h, List.foldl_append]; rfl
theorem stepM_len (p : Int → Int → Bool) (r : Int) (T : List Int) (x : Int) : (stepM p r T x).length ≤ T.length + 1 := by
  unfold stepM; split <;> simp
theorem taken_len (p : Int → Int → Bool) (r : Int) (L : List Int) : ∀ k, k ≤ L.length → (takenF p r (L.take k)).length ≤ k
  | 0, _ => by simp [takenF]
  | k + 1, h => by
    rw [taken_succ p r (by omega)]
    have h1 := taken_len p r L k (by omega)
    have h2 := stepM_len p r (takenF p r (L.take k)) (nth L k)
    omega
theorem colF_len (p : Int → Int → Bool) (P : List Int) (r : Int) : (colF p P r).length ≤ P.length := by
  unfold colF
  rw [List.length_map]
  have := taken_len p r P P.length (Nat.le_refl _)
  rw [List.take_length] at this
  exact this
theorem colsF_succ (p : Int → Int → Bool) (P : List Int) (n : Nat) : colsF p P (n + 1) = colsF p P n ++ colF p P n := by unfold colsF; rw [List.range_succ, List.flatMap_append]; simp
theorem colsF_len (p : Int → Int → Bool) (P : List Int) : ∀ n, (colsF p P n).length ≤ P.length * n
  | 0 => by simp [colsF]
  | n + 1 => by
    rw [colsF_succ, List.length_append, Nat.mul_succ]
    have h1 := colsF_len p P n
    have h2 := colF_len p P n
    omega
theorem own_snocD {w : World} {base : Nat} {v : Value} {A : List (Int × Int)} {l r : Int} (h : w.ownsRow base 55 2 v (A.length + 1) (dcells A ++ [.int .i64 l, .int .i64 r])) : OwnD w base v (A ++ [(l, r)]) := OwnD.joined (B := [(l, r)]) h
theorem OwnD.past {w w' : World} {base : Nat} {M v v' : Value} {L : List (Int × Int)} {o : Obj} (h : OwnD w base M L) (hg : (w.alloc o).grownBy w' v.ownBlock) (ha : Apart M v) (hf : Fresh (w.alloc o) v v') : OwnD w' base M L ∧ Apart M v' :=
  ⟨OwnD.far (World.ownsRow.alloc h o) hg ha, Apart.next (World.ownsRow.alloc h o) ha hf⟩
theorem c_hasPart (oa) (cap : Nat) (L : List Int) (x : Int) (w : World) (hL : IntsAt w oa L) :
    Ans Try.prog 184 #[.slice oa L.length cap, .int .i64 x] w (.bool (anyIns L x)) := by
  unfold Ans
  have hn : L.length ≤ 1073741824 := hL.len
  go_enter Try.func184, Try.ntmps184
  go_wp2
  go_loopw [9] (fun i wr => ∃ k : Nat, i = .int .i64 k ∧ k ≤ L.length ∧ (L.take k).all (fun y => !ins y x) = true ∧ Below w.heap.size w wr) (fun i _ => L.length - (intOf i).toNat)
  case atStart => exact ⟨0, rfl, Nat.zero_le _, by simp, Below.refl _ _⟩
  case round =>
    obtain ⟨k, rfl, hk, hall, hb⟩ := hrel
    have HA : Hid ((L.take k).all (fun y => !ins y x) = true) := hall
    clear hall
    by_cases hlt : k < L.length
    · obtain ⟨b, off, rfl, hbs, hc⟩ := hL.at_ (by omega)
      have hc1 := cell_keep (hc k hlt) hb
      have HT : Hid ((L.take (k + 1)).all (fun y => !ins y x) = ((L.take k).all (fun y => !ins y x) && !ins (nth L k) x)) := all_take_succ (fun y => !ins y x) L k hlt
      have HY : Hid (ins (nth L k) x = true → anyIns L x = true) := fun h => List.any_eq_true.2 ⟨nth L k, List.mem_iff_getElem?.2 ⟨k, nth_eq hlt⟩, h⟩
      clear hc
      generalize nth L k = y at *
      cases hi : ins y x
      · go_wp2_with (first | (go_at_call 106; refine Calls.mono (Ans.eqb (c_inside _ _ _) hi) ?_; rintro e w1 ⟨rfl, hbn⟩; replace hb := bel_to (w := w) (by first | exact hb | exact hb.alloc hb.size _ | exact (hb.alloc hb.size _).alloc (Nat.le_trans hb.size (by simp)) _ | exact hb.setCell (by simp [hb.size]) _) hbn; clear hbn))
        go_roundw
        case rel => exact ⟨k + 1, by go_num, by omega, by rw [HT.out, HA.out, hi]; rfl, hb⟩
        case measure => simp [intOf]; omega
      · go_wp2_with (first | (go_at_call 106; refine Calls.mono (Ans.eqb (c_inside _ _ _) hi) ?_; rintro e w1 ⟨rfl, hbn⟩; replace hb := bel_to (w := w) (by first | exact hb | exact hb.alloc hb.size _ | exact (hb.alloc hb.size _).alloc (Nat.le_trans hb.size (by simp)) _ | exact hb.setCell (by simp [hb.size]) _) hbn; clear hbn))
        go_ret
        exact ⟨ret_bool (HY.out hi).symm, hb⟩
    · have hkk : k = L.length := by omega
      have HS : Hid (anyIns L x = false) := by
        have h := HA.out
        rw [hkk, List.take_length, List.all_eq_true] at h
        show anyIns L x = false
        unfold anyIns
        rw [List.any_eq_false]
        intro y hy
        have := h y hy
        simpa using this
      clear hkk
      go_wp2
      go_ret
      exact ⟨ret_bool HS.out.symm, hb⟩

set_option maxHeartbeats 3200000 in
theorem c_minimalDeps_A (N : Nat) (hN : N ≤ 5) (e0 : Value) (p : Int → Int → Bool) (w : World)
    (hcl : ∀ (W : World) (x r : Int), St x → (0 ≤ r ∧ r < N) → x < 2 ^ N → Below w.heap.size w W → Ans Try.prog 146 #[.agg #[.int .i64 x, .int .i64 r], e0] W (.bool (p x r))) :
    Calls Try.prog 145 #[.int .i64 N, .func (.func 146) #[] #[e0]] w fun e w' => ∃ v, e = .returned v ∧ OwnD w' w.heap.size v (colsF p (partsF N) N) ∧ Below w.heap.size w w' := by
  obtain ⟨i0, hi, hz0, hz1, hz2⟩ := info_parts info_int
  obtain ⟨j0, hj, hy0, hy1, hy2⟩ := info_parts info_dep
  have hb := (Below.refl w.heap.size w).alloc (Nat.le_refl _) (.cells #[] 55)
  have hO := OwnD.empty w w.heap.size (Nat.le_refl _)
  have hpl := partsF_len N
  have HPS : Hid (∀ x ∈ partsF N, St x ∧ x < 2 ^ N) := fun x hx => by
    have h := (partsF_mem (n := N) (by omega) (by omega)).1 hx
    have h2 := (pow_wrap (n := (N : Int)) (by omega) (by omega)).2.1
    rw [Int.toNat_natCast] at h h2
    exact ⟨⟨h.1, by omega⟩, h.2⟩
  have HCL : Hid (∀ (W : World) (x r : Int), St x → (0 ≤ r ∧ r < N) → x < 2 ^ N → Below w.heap.size w W → Ans Try.prog 146 #[.agg #[.int .i64 x, .int .i64 r], e0] W (.bool (p x r))) := hcl
  clear hcl
  go_enter Try.func145, Try.ntmps145
  go_wp2
  go_loopw [5, 6] (fun v i wr => ∃ r : Nat, i = .int .i64 r ∧ r ≤ N ∧ OwnD wr w.heap.size v (colsF p (partsF N) r) ∧ Below w.heap.size w wr) (fun _ i _ => N - (intOf i).toNat)
  case atStart => exact ⟨0, rfl, Nat.zero_le _, by simpa [colsF] using hO, hb⟩
  case round =>
    clear hO hb
    obtain ⟨r, rfl, hr, hO, hb⟩ := hrel
    have hcl := colsF_len p (partsF N) r
    have hcl2 : (colsF p (partsF N) r).length ≤ 32 * 5 := Nat.le_trans hcl (Nat.mul_le_mul hpl (by omega))
    clear hcl
    by_cases hlt : r < N
    · have HC : Hid (colsF p (partsF N) (r + 1) = colsF p (partsF N) r ++ colF p (partsF N) r) := colsF_succ _ _ _
      have hr64 : 0 ≤ (r : Int) ∧ (r : Int) < 64 := by omega
      have hT := OwnI.empty _ wr.heap.size (Nat.le_refl _)
      have ap_OT := apart_old hO hT
      replace hT := hT.based hb.size
      have hO := World.ownsRow.alloc hO (.cells #[] 3)
      have hb := hb.alloc hb.size (.cells #[] 3)
      go_wp2_with fail
      have oldO := hO
      have oldT := hT
      refine (c_PartsBySize (N : Int) _).mono ?_
      rintro e w2 ⟨v2, rfl, hP, hbn⟩
      have ap_PO := (apart_old oldO hP).symm
      have ap_PT := (apart_old oldT hP).symm
      replace hT := hT.keep hbn
      replace hO := OwnD.keep hO hbn
      replace hP := hP.based hb.size
      replace hb := bel_to hb hbn
      clear oldO oldT hbn
      generalize hPP : partsF N = P at *
      have HPP : Hid (partsF N = P) := hPP
      clear hPP
      generalize colsF p P r = A at *
      obtain ⟨o1, c1, rfl⟩ := hP.shape
      have hPr : P.length ≤ Room := by unfold Room; omega
      have hrN : 0 ≤ (r : Int) ∧ (r : Int) < N := by omega
      go_wp2
      go_loopw [5, 7, 20] (fun vO vT i wr => ∃ k : Nat, i = .int .i64 k ∧ k ≤ P.length ∧ OwnI wr w.heap.size vT (takenF p r (P.take k)) ∧ OwnD wr w.heap.size vO (A ++ colF p (P.take k) r) ∧ OwnI wr w.heap.size (.slice o1 P.length c1) P ∧ Apart vO vT ∧ Apart (.slice o1 P.length c1) vO ∧ Apart (.slice o1 P.length c1) vT ∧ Below w.heap.size w wr) (fun _ _ i _ => P.length - (intOf i).toNat)
      case atStart => exact ⟨0, rfl, Nat.zero_le _, by simpa [takenF] using hT, by simpa [colF, takenF] using hO, hP, ap_OT, ap_PO, ap_PT, hb⟩
      case round =>
        clear hT hO hP ap_OT ap_PO ap_PT hb
        obtain ⟨k, rfl, hk, hT, hO, hP, ap_OT, ap_PO, ap_PT, hb⟩ := hrel
        by_cases hlk : k < P.length
        · obtain ⟨b2, off2, rfl, hbs2, hca⟩ := (hP.ints rfl hPr).at_ (by omega)
          have hc2 := hca k hlk
          have hxs := HPS.out _ (List.mem_iff_getElem?.2 ⟨k, nth_eq hlk⟩)
          have hTl := taken_len p r P k hk
          have hOl : (A ++ colF p (P.take k) r).length ≤ 300 := by
            have h := colF_len p (P.take k) r
            rw [List.length_take] at h
            rw [List.length_append]
            omega
          have HTs : Hid (takenF p r (P.take (k + 1)) = stepM p r (takenF p r (P.take k)) (nth P k)) := taken_succ p r hlk
          have HOs : Hid (A ++ colF p (P.take (k + 1)) r = A ++ (stepM p r (takenF p r (P.take k)) (nth P k)).map fun x => (x, (r : Int))) := by
            show A ++ colF p (P.take (k + 1)) r = A ++ (stepM p r (takenF p r (P.take k)) (nth P k)).map fun x => (x, (r : Int))
            unfold colF; rw [taken_succ p r hlk]
          have HOk : Hid (A ++ colF p (P.take k) r = A ++ (takenF p r (P.take k)).map fun x => (x, (r : Int))) := rfl
          have hst : Hid (St (nth P k)) := hxs.1
          have hx2 := hxs.2
          clear hca hxs
          generalize nth P k = x at *
          generalize takenF p r (P.take k) = T at *
          generalize A ++ colF p (P.take k) r = C at *
          have hTr : T.length ≤ Room := by unfold Room; omega
          obtain ⟨oT, cT, rfl⟩ := hT.shape
          cases h1 : hasc x (r : Int)
          · cases h2 : anyIns T x
            · cases h3 : p x (r : Int)
              · have HM : Hid (stepM p r T x = T) := by show stepM p r T x = T; unfold stepM; rw [h1, h2, h3]; rfl
                go_wp2_with (first | (go_at_call 105; refine Calls.mono (Ans.eqb (c_has _ _ hr64 _) h1) ?_; rintro e w1 ⟨rfl, hbn⟩; replace hT := hT.keep hbn; replace hP := hP.keep hbn; replace hO := hO.keep hbn; replace hb := bel_to (w := w) (by first | exact hb | exact hb.alloc hb.size _ | exact (hb.alloc hb.size _).alloc (Nat.le_trans hb.size (by simp)) _ | exact hb.setCell (by simp [hb.size]) _) hbn; clear hbn) | (go_at_call 184; refine Calls.mono (Ans.eqb (c_hasPart _ _ _ _ _ (hT.ints rfl hTr)) h2) ?_; rintro e w1 ⟨rfl, hbn⟩; replace hT := hT.keep hbn; replace hP := hP.keep hbn; replace hO := hO.keep hbn; replace hb := bel_to (w := w) (by first | exact hb | exact hb.alloc hb.size _ | exact (hb.alloc hb.size _).alloc (Nat.le_trans hb.size (by simp)) _ | exact hb.setCell (by simp [hb.size]) _) hbn; clear hbn) | (go_at_call 146; refine Calls.mono (Ans.eqb (HCL.out _ x (r : Int) hst.out hrN hx2 hb) h3) ?_; rintro e w1 ⟨rfl, hbn⟩; replace hT := hT.keep hbn; replace hP := hP.keep hbn; replace hO := hO.keep hbn; replace hb := bel_to (w := w) (by first | exact hb | exact hb.alloc hb.size _ | exact (hb.alloc hb.size _).alloc (Nat.le_trans hb.size (by simp)) _ | exact hb.setCell (by simp [hb.size]) _) hbn; clear hbn) | fail)
                go_roundw
                case rel => exact ⟨k + 1, by go_num, by omega, by rw [HTs.out, HM.out]; exact hT, by rw [HOs.out, HM.out, ← HOk.out]; exact hO, hP, ap_OT, ap_PO, ap_PT, hb⟩
                case measure => simp [intOf]; omega
              · have HM : Hid (stepM p r T x = T ++ [x]) := by show stepM p r T x = T ++ [x]; unfold stepM; rw [h1, h2, h3]; rfl
                have HOn : Hid (A ++ (T ++ [x]).map (fun x => (x, (r : Int))) = C ++ [(x, (r : Int))]) := by
                  show A ++ (T ++ [x]).map (fun x => (x, (r : Int))) = C ++ [(x, (r : Int))]
                  rw [HOk.out]; simp
                have hq : True := trivial
                go_wp2_with (first | (go_at_call 105; refine Calls.mono (Ans.eqb (c_has _ _ hr64 _) h1) ?_; rintro e w1 ⟨rfl, hbn⟩; replace hT := hT.keep hbn; replace hP := hP.keep hbn; replace hO := hO.keep hbn; replace hb := bel_to (w := w) (by first | exact hb | exact hb.alloc hb.size _ | exact (hb.alloc hb.size _).alloc (Nat.le_trans hb.size (by simp)) _ | exact hb.setCell (by simp [hb.size]) _) hbn; clear hbn) | (go_at_call 184; refine Calls.mono (Ans.eqb (c_hasPart _ _ _ _ _ (hT.ints rfl hTr)) h2) ?_; rintro e w1 ⟨rfl, hbn⟩; replace hT := hT.keep hbn; replace hP := hP.keep hbn; replace hO := hO.keep hbn; replace hb := bel_to (w := w) (by first | exact hb | exact hb.alloc hb.size _ | exact (hb.alloc hb.size _).alloc (Nat.le_trans hb.size (by simp)) _ | exact hb.setCell (by simp [hb.size]) _) hbn; clear hbn) | (go_at_call 146; refine Calls.mono (Ans.eqb (HCL.out _ x (r : Int) hst.out hrN hx2 hb) h3) ?_; rintro e w1 ⟨rfl, hbn⟩; replace hT := hT.keep hbn; replace hP := hP.keep hbn; replace hO := hO.keep hbn; replace hb := bel_to (w := w) (by first | exact hb | exact hb.alloc hb.size _ | exact (hb.alloc hb.size _).alloc (Nat.le_trans hb.size (by simp)) _ | exact hb.setCell (by simp [hb.size]) _) hbn; clear hbn) | (clear hq; at_builtin; refine wpList_append_fresh rfl _ _ 68 rfl w.heap.size 3 i0 (.int .i64 0) 1 8 Try.underlying68 hi hz0 hz1 hz2 rfl (by decide) _ _ _ rfl (World.ownsRow.alloc hT _) _ 1 1 [.int .i64 x] rfl rfl (by intro j u hj; match j, hj with | 0, hj => simp at hj; subst hj; simp [Addr.add]) (by intro u hu; simp at hu; subst hu; rfl) (by unfold maxLen; omega) (by omega) (by have := hb.size; simp; omega) ?_; intro v' w1 hown hgrow hfr; replace hb := (hb.alloc hb.size _).grown hgrow (by have := hb.size; simp; omega) (fun g hg => (World.ownsRow.lt hT g hg).1); obtain ⟨hP, ap_PT⟩ := OwnI.past hP hgrow ap_PT hfr; obtain ⟨hO, ap_OT⟩ := OwnD.past hO hgrow ap_OT hfr; replace hT := OwnI.snoc hown; clear hown hgrow hfr) | (at_builtin; refine wpList_append_fresh rfl _ _ 29 rfl w.heap.size 55 j0 (.agg #[.int .i64 0, .int .i64 0]) 2 16 Try.underlying29 hj hy0 hy1 hy2 rfl (by decide) _ _ _ rfl (World.ownsRow.alloc hO _) _ 1 1 [.int .i64 x, .int .i64 (r : Int)] rfl rfl (World.news_of_block (cs := #[.int .i64 x, .int .i64 (r : Int)]) (t := 55) (fr := (0, 0)) (heap_alloc_new _ _)) (by intro u hu; simp at hu; rcases hu with rfl | rfl <;> rfl) (by unfold maxLen; omega) (by omega) (by have := hb.size; simp; omega) ?_; intro v' w1 hown hgrow hfr; replace hb := (hb.alloc hb.size _).grown hgrow (by have := hb.size; simp; omega) (fun g hg => (World.ownsRow.lt hO g hg).1); obtain ⟨hP, ap_PO⟩ := OwnI.past hP hgrow ap_PO hfr; obtain ⟨hT, ap_TO⟩ := OwnI.past hT hgrow ap_OT.symm hfr; have ap_OT := ap_TO.symm; clear ap_TO; replace hO := own_snocD hown; clear hown hgrow hfr) | fail)
                go_roundw
                case rel => exact ⟨k + 1, by go_num, by omega, by rw [HTs.out, HM.out]; exact hT, by rw [HOs.out, HM.out, HOn.out]; exact hO, hP, ap_OT, ap_PO, ap_PT, hb⟩
                case measure => simp [intOf]; omega
            · have HM : Hid (stepM p r T x = T) := by show stepM p r T x = T; unfold stepM; rw [h1, h2]; rfl
              go_wp2_with (first | (go_at_call 105; refine Calls.mono (Ans.eqb (c_has _ _ hr64 _) h1) ?_; rintro e w1 ⟨rfl, hbn⟩; replace hT := hT.keep hbn; replace hP := hP.keep hbn; replace hO := hO.keep hbn; replace hb := bel_to (w := w) (by first | exact hb | exact hb.alloc hb.size _ | exact (hb.alloc hb.size _).alloc (Nat.le_trans hb.size (by simp)) _ | exact hb.setCell (by simp [hb.size]) _) hbn; clear hbn) | (go_at_call 184; refine Calls.mono (Ans.eqb (c_hasPart _ _ _ _ _ (hT.ints rfl hTr)) h2) ?_; rintro e w1 ⟨rfl, hbn⟩; replace hT := hT.keep hbn; replace hP := hP.keep hbn; replace hO := hO.keep hbn; replace hb := bel_to (w := w) (by first | exact hb | exact hb.alloc hb.size _ | exact (hb.alloc hb.size _).alloc (Nat.le_trans hb.size (by simp)) _ | exact hb.setCell (by simp [hb.size]) _) hbn; clear hbn) | (go_at_call 146; refine Calls.mono (Ans.eqb (HCL.out _ x (r : Int) hst.out hrN hx2 hb) h3) ?_; rintro e w1 ⟨rfl, hbn⟩; replace hT := hT.keep hbn; replace hP := hP.keep hbn; replace hO := hO.keep hbn; replace hb := bel_to (w := w) (by first | exact hb | exact hb.alloc hb.size _ | exact (hb.alloc hb.size _).alloc (Nat.le_trans hb.size (by simp)) _ | exact hb.setCell (by simp [hb.size]) _) hbn; clear hbn) | fail)
              go_roundw
              case rel => exact ⟨k + 1, by go_num, by omega, by rw [HTs.out, HM.out]; exact hT, by rw [HOs.out, HM.out, ← HOk.out]; exact hO, hP, ap_OT, ap_PO, ap_PT, hb⟩
              case measure => simp [intOf]; omega
          · have HM : Hid (stepM p r T x = T) := by show stepM p r T x = T; unfold stepM; rw [h1]; rfl
            go_wp2_with (first | (go_at_call 105; refine Calls.mono (Ans.eqb (c_has _ _ hr64 _) h1) ?_; rintro e w1 ⟨rfl, hbn⟩; replace hT := hT.keep hbn; replace hP := hP.keep hbn; replace hO := hO.keep hbn; replace hb := bel_to (w := w) (by first | exact hb | exact hb.alloc hb.size _ | exact (hb.alloc hb.size _).alloc (Nat.le_trans hb.size (by simp)) _ | exact hb.setCell (by simp [hb.size]) _) hbn; clear hbn) | (go_at_call 184; refine Calls.mono (Ans.eqb (c_hasPart _ _ _ _ _ (hT.ints rfl hTr)) h2) ?_; rintro e w1 ⟨rfl, hbn⟩; replace hT := hT.keep hbn; replace hP := hP.keep hbn; replace hO := hO.keep hbn; replace hb := bel_to (w := w) (by first | exact hb | exact hb.alloc hb.size _ | exact (hb.alloc hb.size _).alloc (Nat.le_trans hb.size (by simp)) _ | exact hb.setCell (by simp [hb.size]) _) hbn; clear hbn) | (go_at_call 146; refine Calls.mono (Ans.eqb (HCL.out _ x (r : Int) hst.out hrN hx2 hb) h3) ?_; rintro e w1 ⟨rfl, hbn⟩; replace hT := hT.keep hbn; replace hP := hP.keep hbn; replace hO := hO.keep hbn; replace hb := bel_to (w := w) (by first | exact hb | exact hb.alloc hb.size _ | exact (hb.alloc hb.size _).alloc (Nat.le_trans hb.size (by simp)) _ | exact hb.setCell (by simp [hb.size]) _) hbn; clear hbn) | fail)
            go_roundw
            case rel => exact ⟨k + 1, by go_num, by omega, by rw [HTs.out, HM.out]; exact hT, by rw [HOs.out, HM.out, ← HOk.out]; exact hO, hP, ap_OT, ap_PO, ap_PT, hb⟩
            case measure => simp [intOf]; omega
        · have hkk : k = P.length := by omega
          have HE : Hid (colsF p (partsF N) (r + 1) = A ++ colF p (P.take k) r) := by
            show colsF p (partsF N) (r + 1) = A ++ colF p (P.take k) r
            rw [HPP.out, HC.out, hkk, List.take_length]
          clear hkk
          go_wp2
          go_roundw
          case rel => exact ⟨r + 1, by go_num, by omega, by rw [HE.out]; exact hO, hb⟩
          case measure => simp [intOf]; omega
    · have hrr : r = N := by omega
      have HE : Hid (colsF p (partsF N) r = colsF p (partsF N) N) := by show colsF p (partsF N) r = colsF p (partsF N) N; rw [hrr]
      clear hrr
      go_wp2
      go_ret
      exact ⟨_, rfl, by rw [← HE.out]; exact hO, hb⟩

end Go.Proofs.Ytjbmpnbfiahdhaa
namespace Go.Proofs.Ytjbmpnbfiahdhaa
open Go.RowKit
set_option linter.unusedVariables false
set_option maxRecDepth 100000

def isMinF (n : Int) (R : List (List Int)) (m l r : Int) : Bool :=
  askF n R m l r && (holdsF R m l r && (!hasc l r && (membersF l).all fun c => !holdsF R m (dif l (one c)) r))
theorem dif_le {x c : Int} (hx : St x) (hc : Co c) : 0 ≤ dif x (one c) ∧ dif x (one c) ≤ x := by
  obtain ⟨n, hn, rfl⟩ := st_nat hx; obtain ⟨k, hk, rfl⟩ := co_nat hc
  have h : ∀ n < 32, ∀ k < 5, 0 ≤ dif ((n : Nat) : Int) (one ((k : Nat) : Int)) ∧ dif ((n : Nat) : Int) (one ((k : Nat) : Int)) ≤ ((n : Nat) : Int) := by decide +kernel
  exact h n hn k hk
theorem ask_less {n : Int} {R : List (List Int)} {m l r c : Int} (h : askF n R m l r = true) (hc : Co c) : askF n R m (dif l (one c)) r = true := by
  unfold askF at h ⊢
  simp only [Bool.and_eq_true] at h ⊢
  obtain ⟨⟨ht, hm⟩, hd⟩ := h
  obtain ⟨hl, hr⟩ := dep_of hd (isTab_of ht).2.1
  refine ⟨⟨ht, hm⟩, ?_⟩
  have h2 := dif_le hl hc
  unfold isDepF isAttr at hd ⊢
  simp only [Bool.and_eq_true, decide_eq_true_eq] at hd ⊢
  obtain ⟨⟨⟨a, ⟨⟨b, c'⟩, d⟩, e⟩, f⟩, g⟩ := hd
  exact ⟨⟨⟨a, ⟨⟨b, c'⟩, h2.1⟩, by omega⟩, f⟩, g⟩

end Go.Proofs.Ytjbmpnbfiahdhaa
namespace Go.Proofs.Ytjbmpnbfiahdhaa
open Go.RowKit
set_option linter.unusedVariables false
set_option maxRecDepth 100000

/-- what l7Minimal says -/
def l7F (n : Int) (R : List (List Int)) (m l r : Int) : Bool := !hasc l r && (holdsF R m l r && (membersUpTo l n.toNat).all fun c => !holdsF R m (dif l (one c)) r)
theorem members_below {n l : Int} (h0 : 0 ≤ n) (h5 : n ≤ 5) (hl : 0 ≤ l) (hn : l < 2 ^ n.toNat) : membersUpTo l n.toNat = membersF l := by
  obtain ⟨k, rfl⟩ := Int.eq_ofNat_of_zero_le h0
  obtain ⟨x, rfl⟩ := Int.eq_ofNat_of_zero_le hl
  have hk : k < 6 := by omega
  have h32 : ∀ m < 6, (2 : Int) ^ ((m : Nat) : Int).toNat ≤ 32 := by decide
  have hx : x < 32 := by have := h32 k hk; omega
  have h : ∀ k < 6, ∀ x < 32, ((x : Nat) : Int) < 2 ^ ((k : Nat) : Int).toNat → membersUpTo ((x : Nat) : Int) ((k : Nat) : Int).toNat = membersF ((x : Nat) : Int) := by decide +kernel
  exact h k hk x hx hn
theorem isMin_l7 {n : Int} {R : List (List Int)} {m l r : Int} (h : askF n R m l r = true) : isMinF n R m l r = l7F n R m l r := by
  have h' := h
  unfold askF at h'
  simp only [Bool.and_eq_true] at h'
  have h5 := (isTab_of h'.1.1).2.1
  have hd := h'.2
  unfold isDepF isAttr at hd
  simp only [Bool.and_eq_true, decide_eq_true_eq] at hd
  unfold isMinF l7F
  rw [h, members_below (by omega) h5 hd.1.1.2.1.2 hd.1.1.2.2]
  cases hasc l r <;> cases holdsF R m l r <;> rfl
set_option maxHeartbeats 1600000 in
theorem c_l7Minimal (n : Int) (oa) (cap : Nat) (R : List (List Int)) (m l r : Int) (w : World) (hR : RowsAt w oa R) (ht : isTabF n R = true) (hsl : St l) (hcr : Co r) :
    Ans Try.prog 182 #[.agg #[.int .i64 n, .slice oa R.length cap], .int .i64 m, .agg #[.int .i64 l, .int .i64 r]] w (.bool (l7F n R m l r)) := by
  unfold Ans
  have hb := bel2 w (.cells #[.int .i64 n, .slice oa R.length cap] 26) (.cells #[.int .i64 l, .int .i64 r] 55)
  have a0 := two_a w #[.int .i64 n, .slice oa R.length cap] 26 #[.int .i64 l, .int .i64 r] 55 0 _ rfl
  have a1 := two_a w #[.int .i64 n, .slice oa R.length cap] 26 #[.int .i64 l, .int .i64 r] 55 1 _ rfl
  have d0 := two_b w #[.int .i64 n, .slice oa R.length cap] 26 #[.int .i64 l, .int .i64 r] 55 0 _ rfl
  have d1 := two_b w #[.int .i64 n, .slice oa R.length cap] 26 #[.int .i64 l, .int .i64 r] 55 1 _ rfl
  obtain ⟨hn1, hn5, hr40, _⟩ := isTab_of ht
  have hr1 := hcr.1
  have hr2 := hcr.2
  have HH : Hid (∀ (w' : World) (l' : Int), St l' → RowsAt w' oa R → Ans Try.prog 164 #[.agg #[.int .i64 n, .slice oa R.length cap], .int .i64 m, .agg #[.int .i64 l', .int .i64 r]] w' (.bool (holdsF R m l' r))) := fun w' l' hl' h => c_l7Holds n oa cap R m l' r w' h ht hl' hcr
  have HSL : Hid (St l) := hsl
  clear ht hcr hsl
  cases hlr : hasc l r
  case true =>
    have hlr2 : (bits BinOp.and IntKind.i64 (l / 2 ^ r.toNat) 1 == 1) = true := hlr
    have HM : Hid (l7F n R m l r = false) := by show l7F n R m l r = false; unfold l7F; rw [hlr]; rfl
    go_enter Try.func182, Try.ntmps182
    go_wp2
    go_ret
    exact ⟨ret_bool HM.out.symm, hb⟩
  have hlr2 : (bits BinOp.and IntKind.i64 (l / 2 ^ r.toNat) 1 == 1) = false := hlr
  cases hh : holdsF R m l r
  case false =>
    have HM : Hid (l7F n R m l r = false) := by show l7F n R m l r = false; unfold l7F; rw [hlr, hh]; rfl
    go_enter Try.func182, Try.ntmps182
    go_wp2_with (first | (go_at_call 164; refine Calls.mono (Ans.eqb (HH.out _ l HSL.out (hR.keep hb)) hh) ?_; rintro e w1 ⟨rfl, hbn⟩; replace a0 := cell_keep a0 hbn; replace a1 := cell_keep a1 hbn; replace d0 := cell_keep d0 hbn; replace d1 := cell_keep d1 hbn; replace hb := bel_to (w := w) (by first | exact hb | exact hb.alloc hb.size _ | exact (hb.alloc hb.size _).alloc (Nat.le_trans hb.size (by simp)) _ | exact hb.setCell (by simp [hb.size]) _) hbn; clear hbn))
    go_ret
    exact ⟨ret_bool HM.out.symm, hb⟩
  have HM : Hid (l7F n R m l r = (membersUpTo l n.toNat).all fun c => !holdsF R m (dif l (one c)) r) := by show l7F n R m l r = _; unfold l7F; rw [hlr, hh]; rfl
  obtain ⟨N, rfl⟩ := Int.eq_ofNat_of_zero_le (show 0 ≤ n by omega)
  go_enter Try.func182, Try.ntmps182
  go_wp2_with (first | (go_at_call 164; refine Calls.mono (Ans.eqb (HH.out _ l HSL.out (hR.keep hb)) hh) ?_; rintro e w1 ⟨rfl, hbn⟩; replace a0 := cell_keep a0 hbn; replace a1 := cell_keep a1 hbn; replace d0 := cell_keep d0 hbn; replace d1 := cell_keep d1 hbn; replace hb := bel_to (w := w) (by first | exact hb | exact hb.alloc hb.size _ | exact (hb.alloc hb.size _).alloc (Nat.le_trans hb.size (by simp)) _ | exact hb.setCell (by simp [hb.size]) _) hbn; clear hbn))
  go_loopw [7] (fun i wr => ∃ k : Nat, i = .int .i64 k ∧ k ≤ N ∧ (membersUpTo l k).all (fun c => !holdsF R m (dif l (one c)) r) = true ∧ wr.cell? ⟨w.heap.size, 0, none⟩ = some (.int .i64 N) ∧ wr.cell? ⟨w.heap.size, 1, none⟩ = some (.slice oa R.length cap) ∧ wr.cell? ⟨w.heap.size + 1, 0, none⟩ = some (.int .i64 l) ∧ wr.cell? ⟨w.heap.size + 1, 1, none⟩ = some (.int .i64 r) ∧ Below w.heap.size w wr) (fun i _ => N - (intOf i).toNat)
  case atStart => exact ⟨0, rfl, Nat.zero_le _, by simp [membersUpTo], a0, a1, d0, d1, hb⟩
  case round =>
    clear a0 a1 d0 d1 hb
    obtain ⟨k, rfl, hk, hall, a0, a1, d0, d1, hb⟩ := hrel
    have HA : Hid ((membersUpTo l k).all (fun c => !holdsF R m (dif l (one c)) r) = true) := hall
    clear hall
    by_cases hlt : k < N
    · have HT : Hid ((membersUpTo l (k + 1)) = membersUpTo l k ++ (if hasc l k then [(k : Int)] else [])) := membersUpTo_succ l k
      have hco : Co (k : Int) := ⟨by omega, by omega⟩
      have HSD : Hid (St (dif l (one (k : Int)))) := dif_st HSL.out (one_st hco)
      have hx := fun (x : After wr) => (hR.keep hb).keep x.bel
      clear hco
      cases hkc : hasc l (k : Int)
      · have hk2 : (bits BinOp.and IntKind.i64 (l / 2 ^ k) 1 == 1) = false := hkc
        go_wp2_with fail
        (refine wp_region_after (by kernel_rfl) (by kernel_rfl) ?_; have q_a0 := fun (x : After _) => cell_keep a0 x.bel; have q_a1 := fun (x : After _) => cell_keep a1 x.bel; have q_d0 := fun (x : After _) => cell_keep d0 x.bel; have q_d1 := fun (x : After _) => cell_keep d1 x.bel; (repeat (go_big_quiet_step (fail))); clear q_a0; clear q_a1; clear q_d0; clear q_d1; refine wpQuiet_nil ?_; rintro _ ⟨⟨w1, hbn⟩, rfl⟩; (try simp only [After.w]); replace a0 := cell_keep a0 hbn; replace a1 := cell_keep a1 hbn; replace d0 := cell_keep d0 hbn; replace d1 := cell_keep d1 hbn; replace hb := bel_to (w := w) (by first | exact hb | exact hb.alloc hb.size _ | exact (hb.alloc hb.size _).alloc (Nat.le_trans hb.size (by simp)) _ | exact hb.setCell (by simp [hb.size]) _) hbn; clear hbn)
        go_wp2
        go_roundw
        case rel => exact ⟨k + 1, by go_num, by omega, by rw [HT.out, hkc]; simpa using HA.out, a0, a1, d0, d1, hb⟩
        case measure => simp [intOf]; omega
      · have hk2 : (bits BinOp.and IntKind.i64 (l / 2 ^ k) 1 == 1) = true := hkc
        cases hy : holdsF R m (dif l (one (k : Int))) r
        · go_wp2_with fail
          (refine wp_region_after (by kernel_rfl) (by kernel_rfl) ?_; have q_a0 := fun (x : After _) => cell_keep a0 x.bel; have q_a1 := fun (x : After _) => cell_keep a1 x.bel; have q_d0 := fun (x : After _) => cell_keep d0 x.bel; have q_d1 := fun (x : After _) => cell_keep d1 x.bel; (repeat (go_big_quiet_step ((first | (go_at_call 164; exact Ans.after (Ans.eqb (b' := false) (HH.out _ (dif l (one (k : Int))) HSD.out (hx _)) hy)))))); clear q_a0; clear q_a1; clear q_d0; clear q_d1; refine wpQuiet_nil ?_; rintro _ ⟨⟨w1, hbn⟩, rfl⟩; (try simp only [After.w]); replace a0 := cell_keep a0 hbn; replace a1 := cell_keep a1 hbn; replace d0 := cell_keep d0 hbn; replace d1 := cell_keep d1 hbn; replace hb := bel_to (w := w) (by first | exact hb | exact hb.alloc hb.size _ | exact (hb.alloc hb.size _).alloc (Nat.le_trans hb.size (by simp)) _ | exact hb.setCell (by simp [hb.size]) _) hbn; clear hbn)
          go_wp2
          go_roundw
          case rel => exact ⟨k + 1, by go_num, by omega, by rw [HT.out, hkc, List.all_append, HA.out]; simp [hy], a0, a1, d0, d1, hb⟩
          case measure => simp [intOf]; omega
        · have HF : Hid ((membersUpTo l N).all (fun c => !holdsF R m (dif l (one c)) r) = false) := by
            show (membersUpTo l N).all (fun c => !holdsF R m (dif l (one c)) r) = false
            rw [List.all_eq_false]
            refine ⟨(k : Int), ?_, by simp [hy]⟩
            unfold membersUpTo
            exact List.mem_filter.2 ⟨List.mem_map.2 ⟨k, List.mem_range.2 hlt, rfl⟩, hkc⟩
          go_wp2_with fail
          (refine wp_region_after (by kernel_rfl) (by kernel_rfl) ?_; have q_a0 := fun (x : After _) => cell_keep a0 x.bel; have q_a1 := fun (x : After _) => cell_keep a1 x.bel; have q_d0 := fun (x : After _) => cell_keep d0 x.bel; have q_d1 := fun (x : After _) => cell_keep d1 x.bel; (repeat (go_big_quiet_step ((first | (go_at_call 164; exact Ans.after (Ans.eqb (b' := true) (HH.out _ (dif l (one (k : Int))) HSD.out (hx _)) hy)))))); clear q_a0; clear q_a1; clear q_d0; clear q_d1; refine wpQuiet_nil ?_; rintro _ ⟨⟨w1, hbn⟩, rfl⟩; (try simp only [After.w]); replace a0 := cell_keep a0 hbn; replace a1 := cell_keep a1 hbn; replace d0 := cell_keep d0 hbn; replace d1 := cell_keep d1 hbn; replace hb := bel_to (w := w) (by first | exact hb | exact hb.alloc hb.size _ | exact (hb.alloc hb.size _).alloc (Nat.le_trans hb.size (by simp)) _ | exact hb.setCell (by simp [hb.size]) _) hbn; clear hbn)
          go_wp2
          go_ret
          exact ⟨ret_bool (by rw [HM.out]; exact HF.out.symm), hb⟩
    · have hkk : k = N := by omega
      have HS : Hid ((membersUpTo l N).all (fun c => !holdsF R m (dif l (one c)) r) = true) := by have := HA.out; rw [hkk] at this; exact this
      clear hkk
      go_wp2
      go_ret
      exact ⟨ret_bool (by rw [HM.out]; exact HS.out.symm), hb⟩
end Go.Proofs.Ytjbmpnbfiahdhaa
namespace Go.Proofs.Ytjbmpnbfiahdhaa
open Go.RowKit
set_option linter.unusedVariables false
set_option maxRecDepth 100000

def keyI (x : Int) : Int := (card x : Int) * 32 + x
theorem keyI_fin : ∀ x : Fin 32, keyI (x.val : Int) = keyS x := by decide +kernel
theorem parts_up {N : Nat} (hN : N ≤ 5) : Up ((partsF N).map keyI) := by
  unfold partsF
  rw [if_pos ⟨by omega, by omega⟩, Int.toNat_natCast]
  have h := sortS_up (finsB_nodup N (by omega))
  unfold valS
  rw [List.map_map]
  have e : (keyI ∘ fun (x : Fin 32) => (x.val : Int)) = keyS := funext keyI_fin
  rw [e]
  exact h
theorem up_index {P : List Int} {f : Int → Int} (h : Up (P.map f)) {k : Nat} (hk : k < P.length) : (∀ z ∈ P, f z < f (nth P k) → z ∈ P.take k) ∧ ∀ y ∈ P.take k, f y < f (nth P k) := by
  unfold Up at h
  rw [List.pairwise_map, List.pairwise_iff_getElem] at h
  have ek : P[k] = nth P k := by have := nth_eq hk; rw [List.getElem?_eq_getElem hk] at this; injection this
  constructor
  · intro z hz hlt
    obtain ⟨j, hj, e⟩ := List.mem_iff_getElem.1 hz
    rcases Nat.lt_or_ge j k with h' | h'
    · exact List.mem_iff_getElem.2 ⟨j, by rw [List.length_take]; omega, by rw [List.getElem_take]; exact e⟩
    · exfalso
      rcases Nat.lt_or_ge k j with h'' | h''
      · have := h k j hk hj h''
        rw [ek, e] at this
        omega
      · have : j = k := by omega
        subst this
        rw [ek] at e
        rw [e] at hlt
        omega
  · intro y hy
    obtain ⟨j, hj, e⟩ := List.mem_iff_getElem.1 hy
    rw [List.length_take] at hj
    rw [List.getElem_take] at e
    have := h j k (by omega) hk (by omega)
    rw [e, ek] at this
    exact this
theorem viol_down {R : List (List Int)} {m r x y : Int} {i k : Nat} (hx : St x) (hy : St y) (hA : (row R i).length ≤ 5) (hi : ins x y = true) (h : violF R m y r i k = true) : violF R m x r i k = true := by
  unfold violF at h ⊢
  simp only [Bool.and_eq_true] at h ⊢
  exact ⟨ins_trans hx hy (agreeF_st hA) hi h.1, h.2⟩
theorem holds_up {R : List (List Int)} {m r x y : Int} (hR : ∀ i, i < R.length → (row R i).length ≤ 5) (hx : St x) (hy : St y) (hi : ins x y = true) (h : holdsF R m x r = true) : holdsF R m y r = true := by
  unfold holdsF at h ⊢
  rw [decide_eq_true_eq] at h ⊢
  intro i hil k hk hik
  cases hv : violF R m y r i k
  · rfl
  · have := viol_down (k := k) hx hy (hR i hil) hi hv
    rw [h i hil k hk hik] at this
    cases this
theorem le_of_ins {x y : Int} (hx : St x) (hy : St y) (h : ins x y = true) : x ≤ y := by
  obtain ⟨n, hn, rfl⟩ := st_nat hx; obtain ⟨k, hk, rfl⟩ := st_nat hy
  have h' : ∀ n < 32, ∀ k < 32, ins ((n : Nat) : Int) ((k : Nat) : Int) = true → n ≤ k := by decide +kernel
  have := h' n hn k hk h
  omega
theorem ins_dif {y x c : Int} (hy : St y) (hx : St x) (hc : Co c) (h : ins y x = true) (hn : hasc y c = false) : ins y (dif x (one c)) = true :=
  (ins_iff hy (dif_st hx (one_st hc))).2 fun d hd hyd => by
    rw [hasc_dif hx (one_st hc) hd, hasc_one hc hd, (ins_iff hy hx).1 h d hd hyd]
    have : c ≠ d := fun e => by subst e; rw [hn] at hyd; cases hyd
    simp [this]
theorem dif_ins {x c : Int} (hx : St x) (hc : Co c) : ins (dif x (one c)) x = true :=
  (ins_iff (dif_st hx (one_st hc)) hx).2 fun d hd h => by
    rw [hasc_dif hx (one_st hc) hd] at h
    simp only [Bool.and_eq_true] at h
    exact h.1
theorem dif_not {x c : Int} (hx : St x) (hc : Co c) : hasc (dif x (one c)) c = false := by
  rw [hasc_dif hx (one_st hc) hc, hasc_one hc hc]; simp
theorem lacks {x y : Int} (hx : St x) (hy : St y) (h : ins y x = true) (hne : y ≠ x) : ∃ c, Co c ∧ hasc x c = true ∧ hasc y c = false := by
  refine Classical.byContradiction fun hn => hne (set_ext hy hx fun c hc => ?_)
  cases e : hasc x c
  · cases e' : hasc y c
    · rfl
    · rw [(ins_iff hy hx).1 h c hc e'] at e; cases e
  · cases e' : hasc y c
    · exact absurd ⟨c, hc, e, e'⟩ hn
    · rfl
theorem taken_filter {N : Nat} {R : List (List Int)} {m r : Int} (hN : N ≤ 5) (hR : ∀ i, i < R.length → (row R i).length ≤ 5) (hr : 0 ≤ r ∧ r < 5) :
    ∀ k, k ≤ (partsF N).length → takenF (fun x r => holdsF R m x r) r ((partsF N).take k) = ((partsF N).take k).filter fun x => l7F N R m x r
  | 0, _ => by simp [takenF]
  | k + 1, hk => by
    have hlt : k < (partsF N).length := by omega
    rw [taken_succ _ _ hlt, taken_filter hN hR hr k (by omega), filter_take_succ _ _ _ hlt]
    have hup := up_index (parts_up hN) hlt
    have hxm : nth (partsF N) k ∈ partsF N := List.mem_iff_getElem?.2 ⟨k, nth_eq hlt⟩
    generalize nth (partsF N) k = x at *
    have hpm : ∀ z, z ∈ partsF N ↔ 0 ≤ z ∧ z < 2 ^ N := fun z => by
      have := partsF_mem (n := (N : Int)) (by omega) (by omega) (x := z)
      rw [Int.toNat_natCast] at this
      exact this
    have h32 := (pow_wrap (n := (N : Int)) (by omega) (by omega)).2.1
    rw [Int.toNat_natCast] at h32
    have hxr := (hpm x).1 hxm
    have sx : St x := ⟨hxr.1, by omega⟩
    have key : ((!hasc x r && !anyIns (((partsF N).take k).filter fun x => l7F N R m x r) x) && holdsF R m x r) = l7F N R m x r := by
      have hmb : membersUpTo x N = membersF x := by
        have := members_below (n := (N : Int)) (by omega) (by omega) hxr.1 (by rw [Int.toNat_natCast]; exact hxr.2)
        rw [Int.toNat_natCast] at this
        exact this
      rw [Bool.eq_iff_iff]
      generalize hTl : ((partsF N).take k).filter (fun x => l7F N R m x r) = Tl
      unfold l7F
      rw [Int.toNat_natCast, hmb]
      simp only [Bool.and_eq_true, Bool.not_eq_true', List.all_eq_true]
      constructor
      · rintro ⟨⟨h1, h2⟩, h3⟩
        refine ⟨h1, h3, fun c hc => ?_⟩
        obtain ⟨cc, ch⟩ := members_co c hc
        cases hd : holdsF R m (dif x (one c)) r
        · rfl
        · exfalso
          have sd := dif_st sx (one_st cc)
          obtain ⟨z, hz, hzi⟩ := exists_min (p := fun y => holdsF R m y r) (card (dif x (one c))) (dif x (one c)) (Nat.le_refl _) sd hd
          obtain ⟨sz, pz, mz⟩ := minL_mem.1 hz
          have hzx := ins_trans sz sd sx hzi (dif_ins sx cc)
          have hzr : hasc z r = false := by
            cases e : hasc z r
            · rfl
            · rw [(ins_iff sz sx).1 hzx r hr e] at h1; cases h1
          have hne : z ≠ x := fun e => by
            subst e
            have := (ins_iff sz sd).1 hzi c cc ch
            rw [dif_not sz cc] at this; cases this
          have hzl := le_of_ins sz sx hzx
          have hzm : z ∈ partsF N := (hpm z).2 ⟨sz.1, by omega⟩
          have hcard := card_lt sz sx hzx hne
          have hzt := hup.1 z hzm (by unfold keyI; omega)
          have hz7 : l7F N R m z r = true := by
            have hmz : membersUpTo z N = membersF z := by
              have := members_below (n := (N : Int)) (by omega) (by omega) sz.1 (by rw [Int.toNat_natCast]; omega)
              rw [Int.toNat_natCast] at this
              exact this
            unfold l7F
            rw [Int.toNat_natCast, hmz]
            simp only [Bool.and_eq_true, Bool.not_eq_true', List.all_eq_true]
            refine ⟨hzr, pz, fun c' hc' => ?_⟩
            obtain ⟨cc', ch'⟩ := members_co c' hc'
            cases hd' : holdsF R m (dif z (one c')) r
            · rfl
            · exfalso
              have := mz _ (dif_st sz (one_st cc')) hd' (dif_ins sz cc')
              have h4 := dif_not sz cc'
              rw [this, ch'] at h4; cases h4
          have : anyIns Tl x = true := List.any_eq_true.2 ⟨z, by rw [← hTl]; exact List.mem_filter.2 ⟨hzt, hz7⟩, hzx⟩
          rw [this] at h2; cases h2
      · rintro ⟨h1, h3, h4⟩
        refine ⟨⟨h1, ?_⟩, h3⟩
        cases ha : anyIns Tl x
        · rfl
        · exfalso
          obtain ⟨y, hy, hyx⟩ := List.any_eq_true.1 ha
          rw [← hTl] at hy
          obtain ⟨hyt, hy7⟩ := List.mem_filter.1 hy
          have hyr := (hpm y).1 (List.mem_of_mem_take hyt)
          have sy : St y := ⟨hyr.1, by omega⟩
          have hlt2 := hup.2 y hyt
          have hne : y ≠ x := fun e => by subst e; omega
          obtain ⟨c, cc, cx, cy⟩ := lacks sx sy hyx hne
          have hpy : holdsF R m y r = true := by
            unfold l7F at hy7
            simp only [Bool.and_eq_true] at hy7
            exact hy7.2.1
          have := holds_up hR sy (dif_st sx (one_st cc)) (ins_dif sy sx cc hyx cy) hpy
          rw [h4 c (membersT_mem sx cc cx)] at this
          cases this
    unfold stepM
    rw [key]
    split
    · rfl
    · simp
def minDepsF (n : Int) (R : List (List Int)) (m : Int) : List (Int × Int) := if isTabF n R && modeF m then colsF (fun x r => holdsF R m x r) (partsF n) n.toNat else []
def colG (n : Int) (R : List (List Int)) (m : Int) (L : List Int) (r : Int) : List (Int × Int) := (L.filter fun x => l7F n R m x r).map fun x => (x, r)
def colsG (n : Int) (R : List (List Int)) (m : Int) (k : Nat) : List (Int × Int) := (List.range k).flatMap fun (r : Nat) => colG n R m (partsF n) (r : Int)
theorem colsG_succ (n : Int) (R : List (List Int)) (m : Int) (k : Nat) : colsG n R m (k + 1) = colsG n R m k ++ colG n R m (partsF n) k := by unfold colsG; rw [List.range_succ, List.flatMap_append]; simp
theorem cols_same {N : Nat} {R : List (List Int)} {m : Int} (hN : N ≤ 5) (hR : ∀ i, i < R.length → (row R i).length ≤ 5) : ∀ k, k ≤ N → colsF (fun x r => holdsF R m x r) (partsF N) k = colsG N R m k
  | 0, _ => by simp [colsF, colsG]
  | k + 1, hk => by
    rw [colsF_succ, colsG_succ, cols_same hN hR k (by omega)]
    congr 1
    unfold colF colG
    have h := taken_filter (m := m) (r := (k : Int)) hN hR (by omega) (partsF N).length (Nat.le_refl _)
    rw [List.take_length] at h
    rw [h]
theorem minDeps_len (n : Int) (R : List (List Int)) (m : Int) : (minDepsF n R m).length ≤ Room := by
  unfold minDepsF
  split
  · next h =>
    simp only [Bool.and_eq_true] at h
    obtain ⟨h1, h5, _, _⟩ := isTab_of h.1
    have a := colsF_len (fun x r => holdsF R m x r) (partsF n) n.toNat
    have b := partsF_len n
    have c : (partsF n).length * n.toNat ≤ 32 * 5 := Nat.mul_le_mul b (by omega)
    unfold Room; omega
  · simp
end Go.Proofs.Ytjbmpnbfiahdhaa
namespace Go.Proofs.Ytjbmpnbfiahdhaa
open Go.RowKit
set_option linter.unusedVariables false
set_option maxRecDepth 100000

def candF (N k : Nat) : Int × Int := (nth (partsF N) (k / N), ((k % N : Nat) : Int))
def covS (F : List (Int × Int)) (x r : Int) : Bool := F.any fun o => (o.2 == r) && ins o.1 x
def stepF (R : List (List Int)) (m : Int) (N k : Nat) (z : List (Int × Int) × Int) : List (Int × Int) × Int :=
  if hasc (candF N k).1 (candF N k).2 || covS z.1 (candF N k).1 (candF N k).2 then z else (if holdsF R m (candF N k).1 (candF N k).2 then z.1 ++ [((candF N k).1, (candF N k).2)] else z.1, z.2 + 1)
def repF (R : List (List Int)) (m : Int) (N : Nat) : Nat → List (Int × Int) × Int
  | 0 => ([], 0)
  | k + 1 => stepF R m N k (repF R m N k)
theorem parts_full {N : Nat} (hN : N ≤ 5) : (partsF N).length = 2 ^ N := by
  unfold partsF
  rw [if_pos ⟨by omega, by omega⟩, Int.toNat_natCast]
  unfold valS sortS finsB
  simp
theorem cand_ok {N k : Nat} (hN : N ≤ 5) (h1 : 1 ≤ N) (hk : k < N * 2 ^ N) : k / N < (partsF N).length ∧ St (candF N k).1 ∧ Co (candF N k).2 ∧ (candF N k).1 < 2 ^ N ∧ (candF N k).2 < N := by
  have h2 : k / N < (partsF N).length := by
    rw [parts_full hN]
    exact Nat.div_lt_of_lt_mul hk
  have hm := List.mem_iff_getElem?.2 ⟨k / N, nth_eq h2⟩
  have h3 := (partsF_mem (n := (N : Int)) (by omega) (by omega)).1 hm
  have h4 := (pow_wrap (n := (N : Int)) (by omega) (by omega)).2.1
  rw [Int.toNat_natCast] at h3 h4
  have h5 := Nat.mod_lt k (show 0 < N by omega)
  have e5 : St (candF N k).1 := ⟨h3.1, by show nth (partsF N) (k / N) < 32; omega⟩
  have e6 : Co (candF N k).2 := ⟨by show 0 ≤ ((k % N : Nat) : Int); omega, by show ((k % N : Nat) : Int) < 5; omega⟩
  exact ⟨h2, e5, e6, h3.2, by show ((k % N : Nat) : Int) < N; omega⟩
theorem rep_ok {R : List (List Int)} {m : Int} {N : Nat} (hN : N ≤ 5) (h1 : 1 ≤ N) : ∀ k, k ≤ N * 2 ^ N → (∀ o ∈ (repF R m N k).1, St o.1 ∧ Co o.2) ∧ (repF R m N k).1.length ≤ k ∧ 0 ≤ (repF R m N k).2 ∧ (repF R m N k).2 ≤ k
  | 0, _ => ⟨(fun o ho => by cases ho), Nat.le_refl _, Int.le_refl _, Int.le_refl _⟩
  | k + 1, hk => by
    obtain ⟨i1, i2, i3, i4⟩ := rep_ok (R := R) (m := m) hN h1 k (by omega)
    obtain ⟨_, c1, c2, _⟩ := cand_ok hN h1 (show k < N * 2 ^ N by omega)
    show (∀ o ∈ (stepF R m N k (repF R m N k)).1, St o.1 ∧ Co o.2) ∧ (stepF R m N k (repF R m N k)).1.length ≤ k + 1 ∧ 0 ≤ (stepF R m N k (repF R m N k)).2 ∧ (stepF R m N k (repF R m N k)).2 ≤ (k + 1 : Nat)
    unfold stepF
    split
    · exact ⟨i1, by omega, i3, by omega⟩
    · split
      · refine ⟨fun o ho => ?_, by rw [List.length_append]; simp; omega, by omega, by simp; omega⟩
        rcases List.mem_append.1 ho with h | h
        · exact i1 o h
        · rw [List.mem_singleton.1 h]; exact ⟨c1, c2⟩
      · exact ⟨i1, by show (repF R m N k).1.length ≤ k + 1; omega, by show 0 ≤ (repF R m N k).2 + 1; omega, by show (repF R m N k).2 + 1 ≤ ((k + 1 : Nat) : Int); omega⟩
theorem count_le {N : Nat} (hN : N ≤ 5) : N * 2 ^ N ≤ 160 := by
  have h : ∀ N < 6, N * 2 ^ N ≤ 160 := by decide
  exact h N (by omega)
theorem c_candidatesOf (N : Nat) (hN : N ≤ 5) (w : World) : Ans Try.prog 101 #[.int .i64 N] w (.int .i64 ((N * 2 ^ N : Nat) : Int)) := by
  unfold Ans
  have h : ∀ N < 6, wrap64 (((N : Nat) : Int) * 2 ^ N) = ((N * 2 ^ N : Nat) : Int) := by decide +kernel
  have h0 := h N (by omega)
  go_enter Try.func101, Try.ntmps101
  go_wp2
  go_ret
  exact ⟨ret_int (by simpa using h0), Below.refl _ _⟩
theorem c_l8Count (N : Nat) (hN : N ≤ 5) (w : World) : Ans Try.prog 97 #[.int .i64 N] w (.int .i64 ((N * 2 ^ N : Nat) : Int)) := by
  unfold Ans
  have h : ∀ N < 6, wrap64 (((N : Nat) : Int) * 2 ^ N) = ((N * 2 ^ N : Nat) : Int) := by decide +kernel
  have h0 := h N (by omega)
  go_enter Try.func97, Try.ntmps97
  go_wp2
  go_ret
  exact ⟨ret_int (by simpa using h0), Below.refl _ _⟩
set_option maxHeartbeats 800000 in
theorem c_candidate (N k : Nat) (hN : N ≤ 5) (h1 : 1 ≤ N) (hk : k < N * 2 ^ N) (w : World) :
    Ans Try.prog 167 #[.int .i64 N, .int .i64 k] w (.agg #[.int .i64 (candF N k).1, .int .i64 (candF N k).2]) := by
  unfold Ans
  obtain ⟨hlt, hst, hco, _, _⟩ := cand_ok hN h1 hk
  have hk160 := count_le hN
  have hpl := partsF_len N
  have hp0 : 0 < (partsF N).length := Nat.lt_of_le_of_lt (Nat.zero_le _) hlt
  obtain ⟨x, hx⟩ : ∃ x, x = (candF N k).1 := ⟨_, rfl⟩
  obtain ⟨r, hr⟩ : ∃ r, r = (candF N k).2 := ⟨_, rfl⟩
  rw [← hx, ← hr]
  obtain ⟨q, hq⟩ : ∃ q, q = k / N := ⟨_, rfl⟩
  have hx2 : x = nth (partsF N) q := by rw [hx, hq]; rfl
  have hr2 : r = (k : Int) % (N : Int) := by rw [hr]; show ((k % N : Nat) : Int) = _; exact Int.natCast_emod k N
  have hn0 : 0 < N := by omega
  have e1 : (k : Int).tdiv (N : Int) = (q : Int) := by rw [Int.tdiv_eq_ediv_of_nonneg (by omega), hq]; exact (Int.natCast_ediv k N).symm
  have e2 : (k : Int).tmod (N : Int) = r := by rw [Int.tmod_eq_emod_of_nonneg (by omega), hr2]
  have e3 : (k : Int) / (N : Int) = (q : Int) := by rw [hq]; exact (Int.natCast_ediv k N).symm
  rw [← hq] at hlt
  have hq160 : q ≤ 32 := by omega
  have hr1 : 0 ≤ r ∧ r < 5 := by rw [hr]; exact ⟨hco.1, hco.2⟩
  have hr5 := hr1.1
  have hr6 := hr1.2
  have HR2 : Hid (r = (k : Int) % (N : Int)) := hr2
  have HX2 : Hid (nth (partsF N) q = x) := hx2.symm
  have e4 : (k : Int) % (N : Int) = r := hr2.symm
  have e5 : IntKind.i64.wrap (q : Int) = (q : Int) := IntWalk.i64_in _ (by omega)
  have e6 : IntKind.i64.wrap r = r := IntWalk.i64_in _ (by omega)
  have e7 : ((N : Int) == 0) = false := by simp; omega
  have e8 : ¬ N = 0 := by omega
  clear hx hr hx2 hr2 hst hco hr1 hq
  have hb := (Below.refl w.heap.size w).alloc (Nat.le_refl _) (.cells #[.int .i64 0, .int .i64 0] 55)
  have kR := Blk.new w #[.int .i64 0, .int .i64 0] 55
  go_enter Try.func167, Try.ntmps167
  go_wp2_with fail
  go_region_with ((refine (c_PartsBySize (N : Int) _).mono ?_; rintro e w1 ⟨v, rfl, hP, hbn⟩; obtain ⟨o1, c1, rfl⟩ := hP.shape; obtain ⟨b2, off2, rfl, hbs2, hca⟩ := (hP.ints rfl (by unfold Room; omega)).at_ hp0; have hc2 := hca _ hlt; rw [HX2.out] at hc2; have kR1 := kR.drew.keep hbn; have r0 := kR1.cell 0 (.int .i64 0) rfl; have r1 := kR1.cell 1 (.int .i64 0) rfl; have q0 := kR1.free 0; have q1 := kR1.free 1; clear hca kR1))
  have hb1 := bel_to hb.drew hbn
  clear hbn hP hb kR
  go_wp2
  exact bodyPost_ret (v := .agg #[.int .i64 x, .int .i64 r]) (by simp [results, Try.results167, go_sem, r0, r1]) rfl ⟨rfl, Below.setCell (p := (⟨w.heap.size, 1, none⟩ : Addr)) (Below.setCell (p := (⟨w.heap.size, 0, none⟩ : Addr)) hb1 (Nat.le_refl _) _) (Nat.le_refl _) _⟩
set_option maxHeartbeats 800000 in
theorem c_l8Dep (N k : Nat) (hN : N ≤ 5) (h1 : 1 ≤ N) (hk : k < N * 2 ^ N) (w : World) :
    Ans Try.prog 163 #[.int .i64 N, .int .i64 k] w (.agg #[.int .i64 (candF N k).1, .int .i64 (candF N k).2]) := by
  unfold Ans
  obtain ⟨hlt, hst, hco, _, _⟩ := cand_ok hN h1 hk
  have hk160 := count_le hN
  have hpl := partsF_len N
  have hp0 : 0 < (partsF N).length := Nat.lt_of_le_of_lt (Nat.zero_le _) hlt
  obtain ⟨x, hx⟩ : ∃ x, x = (candF N k).1 := ⟨_, rfl⟩
  obtain ⟨r, hr⟩ : ∃ r, r = (candF N k).2 := ⟨_, rfl⟩
  rw [← hx, ← hr]
  obtain ⟨q, hq⟩ : ∃ q, q = k / N := ⟨_, rfl⟩
  have hx2 : x = nth (partsF N) q := by rw [hx, hq]; rfl
  have hr2 : r = (k : Int) % (N : Int) := by rw [hr]; show ((k % N : Nat) : Int) = _; exact Int.natCast_emod k N
  have hn0 : 0 < N := by omega
  have e1 : (k : Int).tdiv (N : Int) = (q : Int) := by rw [Int.tdiv_eq_ediv_of_nonneg (by omega), hq]; exact (Int.natCast_ediv k N).symm
  have e2 : (k : Int).tmod (N : Int) = r := by rw [Int.tmod_eq_emod_of_nonneg (by omega), hr2]
  have e3 : (k : Int) / (N : Int) = (q : Int) := by rw [hq]; exact (Int.natCast_ediv k N).symm
  rw [← hq] at hlt
  have hq160 : q ≤ 32 := by omega
  have hr1 : 0 ≤ r ∧ r < 5 := by rw [hr]; exact ⟨hco.1, hco.2⟩
  have hr5 := hr1.1
  have hr6 := hr1.2
  have HR2 : Hid (r = (k : Int) % (N : Int)) := hr2
  have HX2 : Hid (nth (partsF N) q = x) := hx2.symm
  have e4 : (k : Int) % (N : Int) = r := hr2.symm
  have e5 : IntKind.i64.wrap (q : Int) = (q : Int) := IntWalk.i64_in _ (by omega)
  have e6 : IntKind.i64.wrap r = r := IntWalk.i64_in _ (by omega)
  have e7 : ((N : Int) == 0) = false := by simp; omega
  have e8 : ¬ N = 0 := by omega
  clear hx hr hx2 hr2 hst hco hr1 hq
  have hb := (Below.refl w.heap.size w).alloc (Nat.le_refl _) (.cells #[.int .i64 0, .int .i64 0] 55)
  have kR := Blk.new w #[.int .i64 0, .int .i64 0] 55
  go_enter Try.func163, Try.ntmps163
  go_wp2_with fail
  refine (c_specPartsBySize (N : Int) _).mono ?_
  rintro e w1 ⟨v, rfl, hP, hbn⟩
  obtain ⟨o1, c1, rfl⟩ := hP.shape
  obtain ⟨b2, off2, rfl, hbs2, hca⟩ := (hP.ints rfl (by unfold Room; omega)).at_ hp0
  have hc2 := hca _ hlt
  rw [HX2.out] at hc2
  have kR1 := kR.keep hbn
  have r0 := kR1.cell 0 (.int .i64 0) rfl
  have r1 := kR1.cell 1 (.int .i64 0) rfl
  have q0 := kR1.free 0
  have q1 := kR1.free 1
  have hb1 := bel_to hb hbn
  clear hca kR1 hbn hP hb kR
  go_wp2_with fail
  go_region_with (fail)
  go_wp2
  exact bodyPost_ret (v := .agg #[.int .i64 x, .int .i64 r]) (by simp [results, Try.results163, go_sem, r0, r1]) rfl ⟨rfl, Below.setCell (p := (⟨w.heap.size, 1, none⟩ : Addr)) (Below.setCell (p := (⟨w.heap.size, 0, none⟩ : Addr)) hb1.drew (Nat.le_refl _) _) (Nat.le_refl _) _⟩
end Go.Proofs.Ytjbmpnbfiahdhaa
namespace Go.Proofs.Ytjbmpnbfiahdhaa
open Go.RowKit
set_option linter.unusedVariables false
set_option maxRecDepth 100000

def set6 (w : World) (k : Nat) (b0 b1 b2 b3 b4 b5 : Value) : World := (((((w.setCell ⟨k, 0, none⟩ b0).setCell ⟨k, 1, none⟩ b1).setCell ⟨k, 2, none⟩ b2).setCell ⟨k, 3, none⟩ b3).setCell ⟨k, 4, none⟩ b4).setCell ⟨k, 5, none⟩ b5
theorem OwnD.set_ne {w : World} {B g : Nat} {v : Value} {D : List (Int × Int)} (h : OwnD w B v D) (j : Nat) (u : Value) (hg : v.ownBlock ≠ some g) : OwnD (w.setCell ⟨g, j, none⟩ u) B v D := ownsRow_setCell_other h (a := ⟨g, j, none⟩) hg u
theorem OwnD.set6 {w : World} {B k : Nat} {v : Value} {D : List (Int × Int)} (h : OwnD w B v D) (hk : v.ownBlock ≠ some k) (b0 b1 b2 b3 b4 b5 : Value) : OwnD (set6 w k b0 b1 b2 b3 b4 b5) B v D :=
  (((((h.set_ne 0 b0 hk).set_ne 1 b1 hk).set_ne 2 b2 hk).set_ne 3 b3 hk).set_ne 4 b4 hk).set_ne 5 b5 hk
theorem bel_set6 {w0 w : World} {B : Nat} (h : Below B w0 w) {k : Nat} (hk : B ≤ k) (b0 b1 b2 b3 b4 b5 : Value) : Below B w0 (set6 w k b0 b1 b2 b3 b4 b5) :=
  Below.setCell (p := ⟨k, 5, none⟩) (Below.setCell (p := ⟨k, 4, none⟩) (Below.setCell (p := ⟨k, 3, none⟩) (Below.setCell (p := ⟨k, 2, none⟩) (Below.setCell (p := ⟨k, 1, none⟩) (Below.setCell (p := ⟨k, 0, none⟩) h hk b0) hk b1) hk b2) hk b3) hk b4) hk b5
theorem OwnD.nilcap {w : World} {B n c : Nat} {oa : Option Addr} {D : List (Int × Int)} (h : OwnD w B (.slice oa n c) D) : oa = none → c = 0 := by
  intro e
  subst e
  rcases h.2 with ⟨hv, _⟩ | ⟨g, c', cur, hv, _⟩
  · cases hv; rfl
  · cases hv
theorem OwnD.not_new {w : World} {B : Nat} {v : Value} {D : List (Int × Int)} (h : OwnD w B v D) {g : Nat} (hg : w.heap.size ≤ g) : v.ownBlock ≠ some g := fun e => by
  have := (World.ownsRow.lt h g e).2
  omega
theorem Fresh.self (w : World) (v : Value) : Fresh w v v := .inl rfl
theorem covS_take {F : List (Int × Int)} {x r : Int} {j : Nat} (hj : j < F.length) : covS (F.take (j + 1)) x r = (covS (F.take j) x r || ((nr F j == r) && ins (nl F j) x)) := by
  unfold covS
  rw [List.take_add_one, dnth_eq hj, List.any_append]; simp
theorem covS_at {F : List (Int × Int)} {x r : Int} {j : Nat} (hj : j < F.length) (h : ((nr F j == r) && ins (nl F j) x) = true) : covS F x r = true := List.any_eq_true.2 ⟨(nl F j, nr F j), List.mem_iff_getElem?.2 ⟨j, dnth_eq hj⟩, h⟩
theorem ask_cand {N k : Nat} {R : List (List Int)} {m : Int} (ht : isTabF N R = true) (hm : modeF m = true) (hk : k < N * 2 ^ N) : askF N R m (candF N k).1 (candF N k).2 = true := by
  obtain ⟨h1, h5, _, _⟩ := isTab_of ht
  obtain ⟨_, c1, c2, c3, c4⟩ := cand_ok (by omega) (by omega) hk
  unfold askF isDepF isAttr
  rw [ht, hm]
  simp only [Bool.and_self, Bool.true_and, Bool.and_eq_true, decide_eq_true_eq, Int.toNat_natCast]
  exact ⟨⟨⟨h1, ⟨⟨⟨by omega, h5⟩, c1.1⟩, c3⟩⟩, c2.1⟩, c4⟩
theorem Blk.grown {a b : World} {g : Nat} {c : Array Value} {T : TypeId} {row : Option Nat} (h : Blk a g c T) (hg : a.grownBy b row) (hne : some g ≠ row) : Blk b g c T := (hg.block g h.lt hne).trans h
theorem lit_keep {w w' : World} {n : Nat} {c : Array Value} {T : TypeId} (h : Below n (w.alloc (.cells c T)) w') (hn : n = w.heap.size + 1) : w'.heap[w.heap.size]? = some (.cells c T (0, 0)) := (h.block w.heap.size (by omega)).trans (heap_alloc_new w _)
theorem lit_keep_drew {w w' : World} {n : Nat} {c : Array Value} {T : TypeId} (h : Below n (w.alloc (.cells c T)).drew w') (hn : n = w.heap.size + 1) : w'.heap[w.heap.size]? = some (.cells c T (0, 0)) := (h.block w.heap.size (by omega)).trans (heap_alloc_new w _)
theorem own_snocD' {w : World} {base : Nat} {v : Value} {A : List (Int × Int)} {l r : Int} (h : w.ownsRow base 55 2 v (A.length + 1) (dcells A ++ [.int .i64 l, .int .i64 r])) : OwnD w base v (A ++ [(l, r)]) := OwnD.joined (B := [(l, r)]) h
theorem snoc_shape {w : World} {base : Nat} {v : Value} {A : List (Int × Int)} {d : Int × Int} (h : OwnD w base v (A ++ [d])) : ∃ o c, v = .slice o (A.length + 1) c := by
  obtain ⟨o, c, e⟩ := h.shape
  exact ⟨o, c, by rw [e]; simp⟩
set_option maxHeartbeats 3200000 in
theorem c_step (N k : Nat) (oa fo) (cap fc : Nat) (R : List (List Int)) (m t : Int) (F : List (Int × Int)) (B : Nat) (w : World) (hR : RowsAt w oa R) (ht : isTabF N R = true) (hm : modeF m = true) (hk : k < N * 2 ^ N)
    (hF : OwnD w B (.slice fo F.length fc) F) (hB : B ≤ w.heap.size) (hFl : F.length ≤ 160) (ht0 : 0 ≤ t) (ht1 : t ≤ 160) :
    Calls Try.prog 102 #[.agg #[.int .i64 N, .slice oa R.length cap, .int .i64 m, .int .i64 k, .slice fo F.length fc, .int .i64 t]] w fun e w' => ∃ fo' fc', e = .returned (.agg #[.int .i64 N, .slice oa R.length cap, .int .i64 m, .int .i64 ((k : Int) + 1), .slice fo' (stepF R m N k (F, t)).1.length fc', .int .i64 (stepF R m N k (F, t)).2]) ∧ OwnD w' B (.slice fo' (stepF R m N k (F, t)).1.length fc') (stepF R m N k (F, t)).1 ∧ Fresh w (.slice fo F.length fc) (.slice fo' (stepF R m N k (F, t)).1.length fc') ∧ Below w.heap.size w w' := by
  obtain ⟨i0, hi, hz0, hz1, hz2⟩ := info_parts info_dep
  obtain ⟨hn1, hn5, _, _⟩ := isTab_of ht
  have hN5 : N ≤ 5 := by omega
  have hN1 : 1 ≤ N := by omega
  have hk160 := count_le hN5
  obtain ⟨_, hst, hco, _, _⟩ := cand_ok hN5 hN1 hk
  have hask := ask_cand (R := R) (m := m) ht hm hk
  have HZ : Hid (stepF R m N k (F, t) = if hasc (candF N k).1 (candF N k).2 || covS F (candF N k).1 (candF N k).2 then (F, t) else (if holdsF R m (candF N k).1 (candF N k).2 then F ++ [((candF N k).1, (candF N k).2)] else F, t + 1)) := rfl
  have HCD : Hid (∀ w', Ans Try.prog 167 #[.int .i64 N, .int .i64 k] w' (.agg #[.int .i64 (candF N k).1, .int .i64 (candF N k).2])) := fun w' => c_candidate N k hN5 hN1 hk w'
  generalize hz : stepF R m N k (F, t) = z at *
  clear hz
  generalize (candF N k).1 = x at *
  generalize (candF N k).2 = r at *
  have hr64 : 0 ≤ r ∧ r < 64 := ⟨hco.1, by have := hco.2; omega⟩
  have hR0 := hR
  have hFn : (Value.slice fo F.length fc).ownBlock ≠ some w.heap.size ∧ (Value.slice fo F.length fc).ownBlock ≠ some (w.heap.size + 1) := ⟨hF.not_new (Nat.le_refl _), hF.not_new (Nat.le_succ _)⟩
  have HNC : Hid (fo = none → fc = 0) := hF.nilcap
  have HST : Hid (St x ∧ Co r) := ⟨hst, hco⟩
  have hb := bel2 w (.cells #[.int .i64 N, .slice oa R.length cap, .int .i64 m, .int .i64 k, .slice fo F.length fc, .int .i64 t] 39) (.cells srZ 39)
  have kS := (Blk.new w #[.int .i64 N, .slice oa R.length cap, .int .i64 m, .int .i64 k, .slice fo F.length fc, .int .i64 t] 39).alloc (.cells srZ 39)
  have kZ := Blk.new (w.alloc (.cells #[.int .i64 N, .slice oa R.length cap, .int .i64 m, .int .i64 k, .slice fo F.length fc, .int .i64 t] 39)) srZ 39
  simp only [World.size_alloc] at kZ
  have hF0 := hF.keep hb
  unfold srZ at hb kS kZ hF0
  have s0 := kS.cell 0 (.int .i64 N) rfl
  have s3 := kS.cell 3 (.int .i64 k) rfl
  clear hst hco ht hm hF
  go_enter Try.func102, Try.ntmps102
  go_wp2_with fail
  refine Calls.mono (HCD.out _) ?_
  rintro e w1 ⟨rfl, hbn⟩
  replace kS := kS.keep hbn
  replace kZ := kZ.keep hbn
  replace hF := hF0.keep hbn
  replace hb := bel_to hb hbn
  have hs1 : w.heap.size + 1 < w1.heap.size := kZ.lt
  clear hbn s0 s3 hF0
  have s3 := kS.cell 3 (.int .i64 k) rfl
  have kS1 := kS.alloc (.cells #[.int .i64 x, .int .i64 r] 55)
  have kZ1 := kZ.alloc (.cells #[.int .i64 x, .int .i64 r] 55)
  have kD1 := Blk.new w1 #[.int .i64 x, .int .i64 r] 55
  have hb1 := hb.alloc hb.size (.cells #[.int .i64 x, .int .i64 r] 55)
  have hF1 := hF.keep ((Below.refl w1.heap.size w1).alloc (Nat.le_refl _) (.cells #[.int .i64 x, .int .i64 r] 55))
  have hFd : (Value.slice fo F.length fc).ownBlock ≠ some w1.heap.size := hF.not_new (Nat.le_refl _)
  have s3' := kS1.cell 3 (.int .i64 k) rfl
  have f3' := kS1.free 3
  have kS2 : Blk _ w.heap.size #[.int .i64 N, .slice oa R.length cap, .int .i64 m, .int .i64 ((k : Int) + 1), .slice fo F.length fc, .int .i64 t] 39 := kS1.set 3 (.int .i64 ((k : Int) + 1))
  have kZ2 := kZ1.far ⟨w.heap.size, 3, none⟩ (.int .i64 ((k : Int) + 1)) (by simp)
  have kD2 := kD1.far ⟨w.heap.size, 3, none⟩ (.int .i64 ((k : Int) + 1)) (by simp; omega)
  have hb2 := Below.setCell (p := (⟨w.heap.size, 3, none⟩ : Addr)) hb1 (Nat.le_refl _) (.int .i64 ((k : Int) + 1))
  have hF2 := hF1.set_ne 3 (.int .i64 ((k : Int) + 1)) hFn.1
  have d0 := kD2.cell 0 (.int .i64 x) rfl
  have d1 := kD2.cell 1 (.int .i64 r) rfl
  have hs2 : w1.heap.size < ((w1.alloc (.cells #[.int .i64 x, .int .i64 r] 55)).setCell ⟨w.heap.size, 3, none⟩ (.int .i64 ((k : Int) + 1))).heap.size := by simp
  clear kS kZ hb kS1 kZ1 kD1 hb1 hF hF1
  go_wp2_with fail
  cases h1 : hasc x r
  · refine Calls.mono (Ans.eqb (c_has _ _ hr64 _) h1) ?_
    rintro e w3 ⟨rfl, hbn⟩
    replace kS2 := kS2.keep hbn
    replace kZ2 := kZ2.keep hbn
    replace kD2 := kD2.keep hbn
    replace hF2 := hF2.keep hbn
    replace hb2 := bel_to hb2 hbn
    clear hbn d0 d1 s3 s3' f3'
    have s4 := kS2.cell 4 (.slice fo F.length fc) rfl
    generalize hd9 : w1.heap.size = d at *
    have hsd : w.heap.size + 1 < d := hs1
    clear hd9 hs2 hs1
    have hFr : F.length ≤ Room := by unfold Room; omega
    go_wp2
    go_loopw [25] (fun i wr => ∃ j : Nat, i = .int .i64 j ∧ j ≤ F.length ∧ covS (F.take j) x r = false ∧ Blk wr w.heap.size #[.int .i64 N, .slice oa R.length cap, .int .i64 m, .int .i64 ((k : Int) + 1), .slice fo F.length fc, .int .i64 t] 39 ∧ Blk wr (w.heap.size + 1) srZ 39 ∧ Blk wr d #[.int .i64 x, .int .i64 r] 55 ∧ OwnD wr B (.slice fo F.length fc) F ∧ Below w.heap.size w wr) (fun i _ => F.length - (intOf i).toNat)
    case atStart => exact ⟨0, rfl, Nat.zero_le _, rfl, kS2, kZ2, kD2, hF2, hb2⟩
    case round =>
      clear kS2 kZ2 kD2 hF2 hb2 s4
      obtain ⟨j, rfl, hj, hcov, kS, kZ, kD, hF, hb⟩ := hrel
      have HC : Hid (covS (F.take j) x r = false) := hcov
      clear hcov
      by_cases hlt : j < F.length
      · obtain ⟨b, off, rfl, hbs, hc⟩ := (hF.deps rfl hFr).at_ (by omega)
        have hc1 := (hc j hlt).1
        have hc2 := (hc j hlt).2
        have HT : Hid (covS (F.take (j + 1)) x r = (covS (F.take j) x r || ((nr F j == r) && ins (nl F j) x))) := covS_take hlt
        have HA : Hid (((nr F j == r) && ins (nl F j) x) = true → covS F x r = true) := covS_at hlt
        clear hc
        generalize nl F j = a at *
        generalize nr F j = q at *
        have hba := (Below.refl wr.heap.size wr).alloc (Nat.le_refl _) (.cells #[.int .i64 a, .int .i64 q] 55)
        replace kS := kS.keep hba
        replace kZ := kZ.keep hba
        replace kD := kD.keep hba
        replace hF := hF.keep hba
        replace hb := bel_to hb hba
        have g0 := box_at wr #[.int .i64 a, .int .i64 q] 55 0 _ rfl
        have g1 := box_at wr #[.int .i64 a, .int .i64 q] 55 1 _ rfl
        have d0 := kD.cell 0 (.int .i64 x) rfl
        have d1 := kD.cell 1 (.int .i64 r) rfl
        clear hba
        cases hq : (q == r)
        · go_wp2
          go_roundw
          case rel => exact ⟨j + 1, by go_num, by omega, by rw [HT.out, HC.out, hq]; rfl, kS, kZ, kD, hF, hb⟩
          case measure => simp [intOf]; omega
        · cases hi3 : ins a x
          · go_wp2_with fail
            refine Calls.mono (Ans.eqb (c_inside _ _ _) hi3) ?_
            rintro e w4 ⟨rfl, hbn⟩
            replace kS := kS.keep hbn
            replace kZ := kZ.keep hbn
            replace kD := kD.keep hbn
            replace hF := hF.keep hbn
            replace hb := bel_to hb hbn
            clear hbn g0 g1 d0 d1
            go_wp2
            go_roundw
            case rel => exact ⟨j + 1, by go_num, by omega, by rw [HT.out, HC.out, hq, hi3]; rfl, kS, kZ, kD, hF, hb⟩
            case measure => simp [intOf]; omega
          · have HV : Hid (z = (F, t)) := by show z = (F, t); rw [HZ.out, h1, HA.out (by rw [hq, hi3]; rfl)]; rfl
            go_wp2_with fail
            refine Calls.mono (Ans.eqb (c_inside _ _ _) hi3) ?_
            rintro e w4 ⟨rfl, hbn⟩
            replace kS := kS.keep hbn
            replace kZ := kZ.keep hbn
            replace hF := hF.keep hbn
            replace hb := bel_to hb hbn
            clear hbn g0 g1 d0 d1 kD
            have s0 := kS.cell 0 (.int .i64 N) rfl
            have s1 := kS.cell 1 (.slice oa R.length cap) rfl
            have s2 := kS.cell 2 (.int .i64 m) rfl
            have s3 := kS.cell 3 (.int .i64 ((k : Int) + 1)) rfl
            have s4 := kS.cell 4 (.slice (some ⟨b, off, none⟩) F.length fc) rfl
            have s5 := kS.cell 5 (.int .i64 t) rfl
            have z0 := kZ.cell 0 (.int .i64 0) rfl
            have z1 := kZ.cell 1 (.slice none 0 0) rfl
            have z2 := kZ.cell 2 (.int .i64 0) rfl
            have z3 := kZ.cell 3 (.int .i64 0) rfl
            have z4 := kZ.cell 4 (.slice none 0 0) rfl
            have z5 := kZ.cell 5 (.int .i64 0) rfl
            have f0 := kZ.free 0
            have f1 := kZ.free 1
            have f2 := kZ.free 2
            have f3 := kZ.free 3
            have f4 := kZ.free 4
            have f5 := kZ.free 5
            go_wp2
            refine bodyPost_ret (v := .agg #[.int .i64 N, .slice oa R.length cap, .int .i64 m, .int .i64 ((k : Int) + 1), .slice (some ⟨b, off, none⟩) F.length fc, .int .i64 t]) (by simp [results, Try.results102, go_sem, z0, z1, z2, z3, z4, z5]) rfl ?_
            rw [HV.out]
            exact ⟨_, fc, rfl, OwnD.set6 hF hFn.2 _ _ _ _ _ _, Fresh.self _ _, bel_set6 hb (Nat.le_succ _) _ _ _ _ _ _⟩
      · have hjj : j = F.length := by omega
        have HCF : Hid (covS F x r = false) := by have h := HC.out; rw [hjj, List.take_length] at h; exact h
        clear hjj
        have s5 := kS.cell 5 (.int .i64 t) rfl
        have f5 := kS.free 5
        have kS2 : Blk _ w.heap.size #[.int .i64 N, .slice oa R.length cap, .int .i64 m, .int .i64 ((k : Int) + 1), .slice fo F.length fc, .int .i64 (t + 1)] 39 := kS.set 5 (.int .i64 (t + 1))
        have kZ2 := kZ.far ⟨w.heap.size, 5, none⟩ (.int .i64 (t + 1)) (by simp)
        have kD2 := kD.far ⟨w.heap.size, 5, none⟩ (.int .i64 (t + 1)) (by simp; omega)
        have hb2 := Below.setCell (p := (⟨w.heap.size, 5, none⟩ : Addr)) hb (Nat.le_refl _) (.int .i64 (t + 1))
        have hF2 := hF.set_ne 5 (.int .i64 (t + 1)) hFn.1
        have s0 := kS2.cell 0 (.int .i64 N) rfl
        have s1 := kS2.cell 1 (.slice oa R.length cap) rfl
        have s2 := kS2.cell 2 (.int .i64 m) rfl
        have d0 := kD2.cell 0 (.int .i64 x) rfl
        have d1 := kD2.cell 1 (.int .i64 r) rfl
        clear kS kZ kD hb hF
        go_wp2_with fail
        cases h2 : holdsF R m x r
        · have HV : Hid (z = (F, t + 1)) := by show z = (F, t + 1); rw [HZ.out, h1, HCF.out, h2]; rfl
          refine Calls.mono (Ans.eqb (b' := false) (c_HoldsDep N oa cap R m x r _ (hR0.keep hb2)) (by rw [h2]; simp)) ?_
          rintro e w5 ⟨rfl, hbn⟩
          replace kS2 := kS2.keep hbn
          replace kZ2 := kZ2.keep hbn
          replace hF2 := hF2.keep hbn
          replace hb2 := bel_to hb2 hbn
          clear hbn d0 d1 s0 s1 s2 s5 f5 kD2
          have s0 := kS2.cell 0 (.int .i64 N) rfl
          have s1 := kS2.cell 1 (.slice oa R.length cap) rfl
          have s2 := kS2.cell 2 (.int .i64 m) rfl
          have s3 := kS2.cell 3 (.int .i64 ((k : Int) + 1)) rfl
          have s4 := kS2.cell 4 (.slice fo F.length fc) rfl
          have s5 := kS2.cell 5 (.int .i64 (t + 1)) rfl
          have z0 := kZ2.cell 0 (.int .i64 0) rfl
          have z1 := kZ2.cell 1 (.slice none 0 0) rfl
          have z2 := kZ2.cell 2 (.int .i64 0) rfl
          have z3 := kZ2.cell 3 (.int .i64 0) rfl
          have z4 := kZ2.cell 4 (.slice none 0 0) rfl
          have z5 := kZ2.cell 5 (.int .i64 0) rfl
          have f0 := kZ2.free 0
          have f1 := kZ2.free 1
          have f2 := kZ2.free 2
          have f3 := kZ2.free 3
          have f4 := kZ2.free 4
          have f5 := kZ2.free 5
          go_wp2
          refine bodyPost_ret (v := .agg #[.int .i64 N, .slice oa R.length cap, .int .i64 m, .int .i64 ((k : Int) + 1), .slice fo F.length fc, .int .i64 (t + 1)]) (by simp [results, Try.results102, go_sem, z0, z1, z2, z3, z4, z5]) rfl ?_
          rw [HV.out]
          exact ⟨fo, fc, rfl, OwnD.set6 hF2 hFn.2 _ _ _ _ _ _, Fresh.self _ _, bel_set6 hb2 (Nat.le_succ _) _ _ _ _ _ _⟩
        · have HV : Hid (z = (F ++ [(x, r)], t + 1)) := by show z = _; rw [HZ.out, h1, HCF.out, h2]; rfl
          refine Calls.mono (Ans.eqb (b' := true) (c_HoldsDep N oa cap R m x r _ (hR0.keep hb2)) (by rw [h2, hask]; rfl)) ?_
          rintro e w5 ⟨rfl, hbn⟩
          replace kS2 := kS2.keep hbn
          replace kZ2 := kZ2.keep hbn
          replace kD2 := kD2.keep hbn
          replace hF2 := hF2.keep hbn
          replace hb2 := bel_to hb2 hbn
          clear hbn d0 d1 s0 s1 s2 s5 f5
          have s4 := kS2.cell 4 (.slice fo F.length fc) rfl
          have f4 := kS2.free 4
          have d0 := kD2.cell 0 (.int .i64 x) rfl
          have d1 := kD2.cell 1 (.int .i64 r) rfl
          have s4b : (w5.alloc (.cells #[.int .i64 x, .int .i64 r] 55)).drew.cell? ⟨w.heap.size, 4, none⟩ = some (.slice fo F.length fc) := (kS2.alloc _).cell 4 _ rfl
          have hbase : B ≤ w5.heap.size := Nat.le_trans hB hb2.size
          have h63 : F.length + 1 ≤ maxLen := by unfold maxLen; omega
          have h64 : (F.length + 1) * 16 ≤ 140737488355328 := by omega
          go_wp2_with fail
          go_region_law (first
            | (go_simp; refine (c_copyDeps fo fc F _ ((hF2.keep (by first | exact (Below.refl _ _).drew | exact (Below.refl _ _).drew.alloc (Nat.le_refl _) _)).deps rfl hFr) HNC.out).mono ?_; rintro e w6 ⟨v6, rfl, hO, hbn⟩; have hb56 := bel_to (w := w5) (by first | exact (Below.refl _ _).drew | exact (Below.refl _ _).drew.alloc (Nat.le_refl _) _) hbn; replace hO := hO.based (show w5.heap.size ≤ _ by simp); have kS6 := kS2.keep hb56; have kZ6 := kZ2.keep hb56; have kD6 := kD2.keep hb56; have hb6 := bel_to hb2 hb56; have d0 := kD6.cell 0 (.int .i64 x) rfl; have d1 := kD6.cell 1 (.int .i64 r) rfl)
            | (refine step_append_own _ (by rfl) _ _ 29 (by rfl) w5.heap.size 55 i0 (.agg #[.int .i64 0, .int .i64 0]) 2 16 Try.underlying29 hi hz0 hz1 hz2 rfl (by decide) v6 _ _ (by rfl) (World.ownsRow.alloc hO _) _ 1 1 [.int .i64 x, .int .i64 r] (by rfl) rfl (World.news_of_block (cs := #[.int .i64 x, .int .i64 r]) (t := 55) (fr := (0, 0)) (heap_alloc_new _ _)) (by intro u hu; simp at hu; rcases hu with rfl | rfl <;> rfl) (show _ from h63) (show _ from h64) (by have := hb56.size; simp; omega) ?_; intro v7 w7 hown hgrow; have hne9 := fun (g : Nat) (hg : g < w5.heap.size) => (show some g ≠ v6.ownBlock from fun e => by have := (World.ownsRow.lt hO g e.symm).1; omega); have kS7 := (kS6.alloc _).grown hgrow (hne9 _ kS2.lt); have kZ7 := (kZ6.alloc _).grown hgrow (hne9 _ kZ2.lt); have hb7 := (hb6.alloc hb6.size _).grown hgrow (by have := hb6.size; simp; omega) (fun g hg => Nat.le_trans hb2.size (World.ownsRow.lt hO g hg).1); have hO7 := own_snocD' hown; clear hown hgrow; obtain ⟨o7, c7, rfl⟩ := snoc_shape hO7; have s4 := kS7.cell 4 (.slice fo F.length fc) rfl; have f4 := kS7.free 4)
            | (refine step_append_own _ (by rfl) _ _ 29 (by rfl) w5.heap.size 55 i0 (.agg #[.int .i64 0, .int .i64 0]) 2 16 Try.underlying29 hi hz0 hz1 hz2 rfl (by decide) v6 _ _ (by rfl) hO _ 1 1 [.int .i64 x, .int .i64 r] (by rfl) rfl (World.news_of_block (cs := #[.int .i64 x, .int .i64 r]) (t := 55) (fr := (0, 0)) (lit_keep_drew hbn (by simp))) (by intro u hu; simp at hu; rcases hu with rfl | rfl <;> rfl) (show _ from h63) (show _ from h64) hb56.size ?_; intro v7 w7 hown hgrow; have hne9 := fun (g : Nat) (hg : g < w5.heap.size) => (show some g ≠ v6.ownBlock from fun e => by have := (World.ownsRow.lt hO g e.symm).1; omega); have kS7 := (kS6).grown hgrow (hne9 _ kS2.lt); have kZ7 := (kZ6).grown hgrow (hne9 _ kZ2.lt); have hb7 := (hb6).grown hgrow (by have := hb6.size; simp; omega) (fun g hg => Nat.le_trans hb2.size (World.ownsRow.lt hO g hg).1); have hO7 := own_snocD' hown; clear hown hgrow; obtain ⟨o7, c7, rfl⟩ := snoc_shape hO7; have s4 := kS7.cell 4 (.slice fo F.length fc) rfl; have f4 := kS7.free 4)
            | fail)
          all_goals
            have kS8 : Blk _ w.heap.size #[.int .i64 N, .slice oa R.length cap, .int .i64 m, .int .i64 ((k : Int) + 1), .slice o7 (F.length + 1) c7, .int .i64 (t + 1)] 39 := kS7.set 4 (.slice o7 (F.length + 1) c7)
            have kZ8 := kZ7.far ⟨w.heap.size, 4, none⟩ (.slice o7 (F.length + 1) c7) (by simp)
            have hb8 := Below.setCell (p := (⟨w.heap.size, 4, none⟩ : Addr)) hb7 (Nat.le_refl _) (.slice o7 (F.length + 1) c7)
            have hn7 : ∀ g, g < w5.heap.size → (Value.slice o7 (F.length + 1) c7).ownBlock ≠ some g := fun g hg e => by have := (World.ownsRow.lt hO7 g e).1; omega
            have hs5 := kS2.lt
            have hz5 := kZ2.lt
            have hO8 := hO7.set_ne 4 (.slice o7 (F.length + 1) c7) (hn7 _ hs5)
            have s0 := kS8.cell 0 (.int .i64 N) rfl
            have s1 := kS8.cell 1 (.slice oa R.length cap) rfl
            have s2 := kS8.cell 2 (.int .i64 m) rfl
            have s3 := kS8.cell 3 (.int .i64 ((k : Int) + 1)) rfl
            have s4 := kS8.cell 4 (.slice o7 (F.length + 1) c7) rfl
            have s5 := kS8.cell 5 (.int .i64 (t + 1)) rfl
            have z0 := kZ8.cell 0 (.int .i64 0) rfl
            have z1 := kZ8.cell 1 (.slice none 0 0) rfl
            have z2 := kZ8.cell 2 (.int .i64 0) rfl
            have z3 := kZ8.cell 3 (.int .i64 0) rfl
            have z4 := kZ8.cell 4 (.slice none 0 0) rfl
            have z5 := kZ8.cell 5 (.int .i64 0) rfl
            have f0 := kZ8.free 0
            have f1 := kZ8.free 1
            have f2 := kZ8.free 2
            have f3 := kZ8.free 3
            have f4 := kZ8.free 4
            have f5 := kZ8.free 5
            go_wp2
            refine bodyPost_ret (v := .agg #[.int .i64 N, .slice oa R.length cap, .int .i64 m, .int .i64 ((k : Int) + 1), .slice o7 (F.length + 1) c7, .int .i64 (t + 1)]) (by simp [results, Try.results102, go_sem, z0, z1, z2, z3, z4, z5]) rfl ?_
            rw [HV.out]
            have hl9 : (F ++ [(x, r)]).length = F.length + 1 := by simp
            refine ⟨o7, c7, ?_, ?_, ?_, bel_set6 hb8 (Nat.le_succ _) _ _ _ _ _ _⟩
            · show Ending.returned _ = Ending.returned (.agg #[.int .i64 N, .slice oa R.length cap, .int .i64 m, .int .i64 ((k : Int) + 1), .slice o7 (F ++ [(x, r)]).length c7, .int .i64 (t + 1)])
              rw [hl9]
            · show OwnD _ B (.slice o7 (F ++ [(x, r)]).length c7) (F ++ [(x, r)])
              rw [hl9]
              exact OwnD.set6 (hO8.based hbase) (hn7 _ hz5) _ _ _ _ _ _
            · show Fresh w _ (.slice o7 (F ++ [(x, r)]).length c7)
              rw [hl9]
              exact .inr (fun g hg => Nat.le_trans hb2.size (World.ownsRow.lt hO7 g hg).1)
  · refine Calls.mono (Ans.eqb (c_has _ _ hr64 _) h1) ?_
    rintro e w3 ⟨rfl, hbn⟩
    replace kS2 := kS2.keep hbn
    replace kZ2 := kZ2.keep hbn
    replace hF2 := hF2.keep hbn
    replace hb2 := bel_to hb2 hbn
    have HV : Hid (z = (F, t)) := by show z = (F, t); rw [HZ.out, h1]; rfl
    clear hbn d0 d1 s3 s3' f3' kD2
    have s0 := kS2.cell 0 (.int .i64 N) rfl
    have s1 := kS2.cell 1 (.slice oa R.length cap) rfl
    have s2 := kS2.cell 2 (.int .i64 m) rfl
    have s3 := kS2.cell 3 (.int .i64 ((k : Int) + 1)) rfl
    have s4 := kS2.cell 4 (.slice fo F.length fc) rfl
    have s5 := kS2.cell 5 (.int .i64 t) rfl
    have z0 := kZ2.cell 0 (.int .i64 0) rfl
    have z1 := kZ2.cell 1 (.slice none 0 0) rfl
    have z2 := kZ2.cell 2 (.int .i64 0) rfl
    have z3 := kZ2.cell 3 (.int .i64 0) rfl
    have z4 := kZ2.cell 4 (.slice none 0 0) rfl
    have z5 := kZ2.cell 5 (.int .i64 0) rfl
    have f0 := kZ2.free 0
    have f1 := kZ2.free 1
    have f2 := kZ2.free 2
    have f3 := kZ2.free 3
    have f4 := kZ2.free 4
    have f5 := kZ2.free 5
    go_wp2
    refine bodyPost_ret (v := .agg #[.int .i64 N, .slice oa R.length cap, .int .i64 m, .int .i64 ((k : Int) + 1), .slice fo F.length fc, .int .i64 t]) (by simp [results, Try.results102, go_sem, z0, z1, z2, z3, z4, z5]) rfl ?_
    rw [HV.out]
    exact ⟨fo, fc, rfl, OwnD.set6 hF2 hFn.2 _ _ _ _ _ _, Fresh.self _ _, bel_set6 hb2 (Nat.le_succ _) _ _ _ _ _ _⟩
end Go.Proofs.Ytjbmpnbfiahdhaa
namespace Go.Proofs.Ytjbmpnbfiahdhaa
open Go.RowKit
set_option linter.unusedVariables false
set_option maxRecDepth 100000

/-- Rows, each of which is nil without capacity, if it is nil. -/
def RowsC (w : World) (oa : Option Addr) (R : List (List Int)) : Prop := RowsAt w oa R ∧ ∀ (b off : Nat), oa = some ⟨b, off, none⟩ → ∀ k, k < R.length → ∀ o n c, w.cell? ⟨b, off + k, none⟩ = some (.slice o n c) → o = none → c = 0
theorem RowsC.keep {w w' : World} {oa : Option Addr} {R : List (List Int)} (h : RowsC w oa R) (hb : Below w.heap.size w w') : RowsC w' oa R :=
  ⟨h.1.keep hb, fun b off e k hk o n c hc => by
    obtain ⟨b', off', e', hlt, _⟩ := h.1.at_ (by omega)
    rw [e] at e'
    simp only [Option.some.injEq, Addr.mk.injEq, and_true] at e'
    obtain ⟨rfl, rfl⟩ := e'
    exact h.2 b off e k hk o n c (by rw [← hb.cell (p := ⟨b, off + k, none⟩) hlt]; exact hc)⟩
theorem OwnI.nilcap {w : World} {B n c : Nat} {oa : Option Addr} {L : List Int} (h : OwnI w B (.slice oa n c) L) : oa = none → c = 0 := by
  intro e
  subst e
  rcases h.2 with ⟨hv, _⟩ | ⟨g, c', cur, hv, _⟩
  · cases hv; rfl
  · cases hv
theorem OwnRows.readC {w : World} {B : Nat} {oa : Option Addr} {n c : Nat} {xs : List Value} {R : List (List Int)} (h : OwnRows w B (.slice oa n c) xs R) (hR : R.length ≤ Room) (hr : ∀ j, j < R.length → (row R j).length ≤ Room) : RowsC w oa R := by
  refine ⟨h.read hR hr, fun b off e k hk o n' c' hc ho => ?_⟩
  obtain ⟨g, e', _, hlt, hcell⟩ := h.at_ (by omega)
  rw [e'] at e
  simp only [Option.some.injEq, Addr.mk.injEq, and_true] at e
  obtain ⟨rfl, rfl⟩ := e
  obtain ⟨o2, c2, q1, q2, _⟩ := h.rows k hk
  have := hcell k hk
  rw [Nat.zero_add] at hc
  rw [hc, q1] at this
  simp only [Option.some.injEq, Value.slice.injEq] at this
  obtain ⟨rfl, _, rfl⟩ := this
  exact q2.nilcap ho
theorem take_row {R : List (List Int)} {k : Nat} (h : k < R.length) : R.take (k + 1) = R.take k ++ [row R k] := by rw [List.take_add_one, row_eq h]; rfl
set_option maxHeartbeats 800000 in
theorem c_copyRows (oa) (ca : Nat) (R : List (List Int)) (w : World) (hR : RowsC w oa R) :
    Calls Try.prog 161 #[.slice oa R.length ca] w fun e w' => ∃ o c xs, e = .returned (.slice o R.length c) ∧ OwnRows w' w.heap.size (.slice o R.length c) xs R ∧ Below w.heap.size w w' := by
  obtain ⟨j0, hj, hy0, hy1, hy2⟩ := info_parts info_ints
  have hn : R.length ≤ 1073741824 := hR.1.len
  have hb := (Below.refl w.heap.size w).alloc (Nat.le_refl _) (.cells #[] 68)
  have hC := OwnRows.empty w w.heap.size (Nat.le_refl _)
  have HR : Hid (RowsC w oa R) := hR
  clear hR
  go_enter Try.func161, Try.ntmps161
  go_wp2
  go_loopw [3, 9] (fun v i wr => ∃ (k : Nat) (xs : List Value), i = .int .i64 k ∧ k ≤ R.length ∧ OwnRows wr w.heap.size v xs (R.take k) ∧ Below w.heap.size w wr) (fun _ i _ => R.length - (intOf i).toNat)
  case atStart => exact ⟨0, [], rfl, Nat.zero_le _, by simpa using hC, hb⟩
  case round =>
    clear hC hb
    obtain ⟨k, xs, rfl, hk, hC, hb⟩ := hrel
    by_cases hlt : k < R.length
    · obtain ⟨b, off, rfl, hbs, hc⟩ := HR.out.1.at_ (by omega)
      obtain ⟨o, c, h1, r1⟩ := hc k hlt
      have hnil := HR.out.2 b off rfl k hlt o _ c h1
      have HT : Hid (R.take (k + 1) = R.take k ++ [row R k]) := take_row hlt
      have hc1 := cell_keep h1 hb
      have hxl := hC.len
      rw [List.length_take] at hxl
      have hxs : xs.length ≤ R.length := by omega
      clear hxl hc h1
      generalize row R k = L at *
      generalize R.take k = P at *
      go_wp2_with (first | (go_at_call 191; refine (c_copyInts _ _ _ _ (r1.keep hb) hnil).mono ?_; rintro e w1 ⟨v1, rfl, hI, hbn⟩; have ap := hC.fresh hI; replace hC := hC.keep hbn; replace hI := hI.based hb.size; replace hb := bel_to hb hbn; obtain ⟨o1, c1, rfl⟩ := hI.shape; clear hbn) | (at_builtin; refine wpList_append_fresh rfl _ _ 24 rfl w.heap.size 68 j0 (.slice none 0 0) 1 24 Try.underlying24 hj hy0 hy1 hy2 rfl (by decide) _ _ _ rfl (World.ownsRow.alloc hC.outer _) _ 1 1 [.slice o1 L.length c1] rfl rfl (by intro j u hj; match j, hj with | 0, hj => simp at hj; subst hj; simp [Addr.add]) (by intro u hu; simp at hu; subst hu; rfl) (by unfold maxLen; omega) (by omega) (by have := hb.size; simp; omega) ?_; intro v' w2 hown hgrow hfr; replace hb := (hb.alloc hb.size _).grown hgrow (by have := hb.size; simp; omega) (fun g hg => (World.ownsRow.lt hC.outer g hg).1); have hC2 := OwnRows.snoc hC hI ap hown hgrow hfr; clear hown hgrow hfr) | fail)
      go_roundw
      case rel => exact ⟨k + 1, _, by go_num, by omega, by rw [HT.out]; exact hC2, hb⟩
      case measure => simp [intOf]; omega
    · have hkk : k = R.length := by omega
      have HE : Hid (R.take k = R) := by show R.take k = R; rw [hkk, List.take_length]
      clear hkk
      rw [HE.out] at hC
      obtain ⟨o, c, rfl⟩ := hC.shape
      go_wp2
      go_ret
      exact ⟨_, _, _, rfl, hC, hb⟩
set_option maxHeartbeats 800000 in
theorem c_copyTable (n : Int) (oa) (ca : Nat) (R : List (List Int)) (w : World) (hR : RowsC w oa R) :
    Calls Try.prog 93 #[.agg #[.int .i64 n, .slice oa R.length ca]] w fun e w' => ∃ o c xs, e = .returned (.agg #[.int .i64 n, .slice o R.length c]) ∧ OwnRows w' w.heap.size (.slice o R.length c) xs R ∧ Below w.heap.size w w' := by
  have hb := bel2 w (.cells #[.int .i64 n, .slice oa R.length ca] 26) (.cells #[.int .i64 0, .slice none 0 0] 26)
  have a0 := two_a w #[.int .i64 n, .slice oa R.length ca] 26 #[.int .i64 0, .slice none 0 0] 26 0 _ rfl
  have a1 := two_a w #[.int .i64 n, .slice oa R.length ca] 26 #[.int .i64 0, .slice none 0 0] 26 1 _ rfl
  have kA := (Blk.new w #[.int .i64 n, .slice oa R.length ca] 26).alloc (.cells #[.int .i64 0, .slice none 0 0] 26)
  have kZ := Blk.new (w.alloc (.cells #[.int .i64 n, .slice oa R.length ca] 26)) #[.int .i64 0, .slice none 0 0] 26
  simp only [World.size_alloc] at kZ
  go_enter Try.func93, Try.ntmps93
  go_wp2_with fail
  go_region_with ((refine (c_copyRows oa ca R _ (hR.keep hb.drew)).mono ?_; rintro e w1 ⟨o, c, xs, rfl, hN, hbn⟩; have kA1 := kA.drew.keep hbn; have kZ1 := kZ.drew.keep hbn; have a0' := kA1.cell 0 (.int .i64 n) rfl; have z0 := kZ1.cell 0 (.int .i64 0) rfl; have z1 := kZ1.cell 1 (.slice none 0 0) rfl; have f0 := kZ1.free 0; have f1 := kZ1.free 1; have hb1 := bel_to hb.drew hbn; clear hbn))
  all_goals
    go_wp2
    have x1 := (hN.far_set (g := w.heap.size + 1) 0 (.int .i64 n) (by simp)).far_set (g := w.heap.size + 1) 1 (.slice o R.length c) (by simp)
    exact bodyPost_ret (v := .agg #[.int .i64 n, .slice o R.length c]) (by simp [results, Try.results93, go_sem, z0, z1]) rfl ⟨o, c, xs, rfl, x1.based (by simp; omega), Below.setCell (p := (⟨w.heap.size + 1, 1, none⟩ : Addr)) (Below.setCell (p := (⟨w.heap.size + 1, 0, none⟩ : Addr)) hb1 (Nat.le_succ _) _) (Nat.le_succ _) _⟩
end Go.Proofs.Ytjbmpnbfiahdhaa
namespace Go.Proofs.Ytjbmpnbfiahdhaa
open Go.RowKit
set_option linter.unusedVariables false
set_option maxRecDepth 100000

theorem bel_set2 {w0 w : World} {B : Nat} (h : Below B w0 w) {k : Nat} (hk : B ≤ k) (b0 b1 : Value) : Below B w0 ((w.setCell ⟨k, 0, none⟩ b0).setCell ⟨k, 1, none⟩ b1) :=
  Below.setCell (p := ⟨k, 1, none⟩) (Below.setCell (p := ⟨k, 0, none⟩) h hk b0) hk b1
theorem apart_lit {v : Value} {g n c : Nat} (h : v.ownBlock ≠ some g) : Apart (.slice (some ⟨g, 0, none⟩) n c) v := Or.inr fun e => h e.symm
theorem Blk.world {w : World} {g : Nat} {c : Array Value} {T : TypeId} (h : Blk w g c T) : ∃ w', w' = w := ⟨w, rfl⟩
theorem drew_grown {w w' : World} {row : Option Nat} (h : w.drew.grownBy w' row) : w.grownBy w' row := ⟨h.os, h.tape, h.output, h.size, h.block⟩
theorem drew_fresh {w : World} {v v' : Value} (h : Fresh w.drew v v') : Fresh w v v' := h
def OldR (S : Nat) (v : Value) (xs : List Value) : Prop := ∀ y, y = v ∨ y ∈ xs → ∀ g, y.ownBlock = some g → g < S
theorem OwnRows.old {w : World} {B S : Nat} {v : Value} {xs : List Value} {R : List (List Int)} (h : OwnRows w B v xs R) (hS : w.heap.size ≤ S) : OldR S v xs := by
  intro y hy g hg
  rcases hy with rfl | hy
  · exact Nat.lt_of_lt_of_le (World.ownsRow.lt h.outer g hg).2 hS
  · obtain ⟨j, _, o, c, e, h2, _⟩ := h.one hy
    exact Nat.lt_of_lt_of_le (World.ownsRow.lt h2 g hg).2 hS
theorem OwnRows.lowS {w : World} {B S : Nat} {v : Value} {xs : List Value} {R : List (List Int)} (h : OwnRows w B v xs R) (hS : S ≤ B) : ∀ y ∈ xs, ∀ g, y.ownBlock = some g → S ≤ g := by
  intro y hy g hg
  obtain ⟨j, _, o, c, e, h2, _⟩ := h.one hy
  exact Nat.le_trans hS (World.ownsRow.lt h2 g hg).1
theorem OwnRows.many {w w' : World} {B S : Nat} {v : Value} {xs vs : List Value} {R : List (List Int)} (h : OwnRows w B v xs R) (hg : GrownMany w w' vs) (hl : ∀ y ∈ vs, ∀ g, y.ownBlock = some g → S ≤ g) (ho : OldR S v xs) : OwnRows w' B v xs R := by
  have hap : ∀ u, u = v ∨ u ∈ xs → ∀ y ∈ vs, Apart u y := by
    intro u hu y hy
    cases e : u.ownBlock with
    | none => exact .inl e
    | some g => exact .inr fun e' => by have := ho u hu g e; have := hl y hy g (by rw [← e', e]); omega
  refine ⟨h.len, owns_many h.outer hg (hap v (.inl rfl)), fun j hj => ?_, h.pair⟩
  obtain ⟨o, c, h1, h2, h3⟩ := h.rows j hj
  exact ⟨o, c, h1, h2.many hg (hap _ (.inr (List.mem_iff_getElem?.2 ⟨j, h1⟩))), h3⟩
theorem OwnRows.after {w w' : World} {B size n : Nat} {e : TypeId} {u v : Value} {ys xs : List Value} {R : List (List Int)} (h : OwnRows w' w.heap.size v xs R) (h' : w.ownsRow B e size u n ys) : ApartR v xs u :=
  ⟨(apart_old h' h.outer).symm, fun y hy => by obtain ⟨j, _, o, c, e, h2, _⟩ := h.one hy; exact (apart_old h' h2).symm⟩
theorem Blk.many {w w' : World} {k : Nat} {c : Array Value} {T : TypeId} {vs : List Value} (h : Blk w k c T) (hg : GrownMany w w' vs) (hn : ∀ y ∈ vs, y.ownBlock ≠ some k) : Blk w' k c T := (hg.block k h.lt hn).trans h
theorem OwnRows.readSeq {w : World} {B c : Nat} {oa : Option Addr} {xs : List Value} {R : List (List Int)} {k : Int} (h : OwnRows w B (.slice oa R.length c) xs (seqR k R)) (hR : R.length ≤ Room) (hr : ∀ j, j < R.length → (row R j).length ≤ Room) : RowsAt w oa (seqR k R) :=
  h.read (by rw [seqR_length]; exact hR) (fun j hj => by rw [seqR_length] at hj; rw [seqR_row hj, seqI_length]; exact hr j hj)
theorem OwnRows.baseLe {w : World} {B S : Nat} {v : Value} {xs : List Value} {R : List (List Int)} (_ : OwnRows w B v xs R) (h : S ≤ B) : S ≤ B := h
theorem sum_le {R : List (List Int)} {m : Nat} (h : ∀ j, j < R.length → (row R j).length ≤ m) : ∀ k, k ≤ R.length → sumL R k ≤ m * k
  | 0, _ => by simp [sumL]
  | k + 1, hk => by
    rw [sumL_succ (by omega), Nat.mul_succ]
    have := sum_le h k (by omega)
    have := h k (by omega)
    omega
/-- Neither the list nor a row of it lies in block k. -/
def Avoid (k : Nat) (v : Value) (xs : List Value) : Prop := ∀ y, y = v ∨ y ∈ xs → y.ownBlock ≠ some k
theorem set_apart {w : World} {B size n k j : Nat} {e : TypeId} {y u : Value} {ys : List Value} (h : w.ownsRow B e size y n ys) (hk : y.ownBlock ≠ some k) : (w.setCell ⟨k, j, none⟩ u).ownsRow B e size y n ys :=
  World.ownsRow.kept h (grown_set w k j _) (.inr hk)
theorem ownRows_setAvoid {w : World} {B k : Nat} {v : Value} {xs : List Value} {R : List (List Int)} (h : OwnRows w B v xs R) (ha : Avoid k v xs) (j : Nat) (u : Value) : OwnRows (w.setCell ⟨k, j, none⟩ u) B v xs R :=
  ⟨h.len, set_apart h.outer (ha v (.inl rfl)), fun t ht => by
    obtain ⟨o, c, h1, h2, h3⟩ := h.rows t ht
    exact ⟨o, c, h1, set_apart h2 (ha _ (.inr (List.mem_iff_getElem?.2 ⟨t, h1⟩))), h3⟩, h.pair⟩
/-- 't.Rows = append(t.Rows, r)' for a table that the call made. -/
theorem tab_snoc {w w5 w7 : World} {B k6 c c5 nC : Nat} {hd v' : Value} {T T2 : TypeId} {o o5 : Option Addr} {xs : List Value} {P : List (List Int)} {C : List Int} (hnC : C.length = nC)
    (hO : OwnRows w5 B (.slice o P.length c) xs P) (hC : OwnI w5 B (.slice o5 nC c5) C) (hap : ApartR (.slice o P.length c) xs (.slice o5 nC c5))
    (kb : Blk w5 k6 #[hd, .slice o P.length c] T) (av : Avoid k6 (.slice o P.length c) xs) (avC : (Value.slice o5 nC c5).ownBlock ≠ some k6) (hb : Below w.heap.size w w5) (hB : w.heap.size ≤ B) (hk6 : w.heap.size ≤ k6)
    (hown : w7.ownsRow B 68 1 v' (xs.length + 1) (xs ++ [.slice o5 nC c5])) (hgrow : (w5.alloc (.cells #[.slice o5 nC c5] T2)).grownBy w7 (Value.slice o P.length c).ownBlock) (hfr : Fresh (w5.alloc (.cells #[.slice o5 nC c5] T2)) (.slice o P.length c) v') :
    (∃ o' c', v' = .slice o' (P.length + 1) c') ∧ w7.cell? ⟨k6, 1, none⟩ = some (.slice o P.length c) ∧ w7.frozen? ⟨k6, 1, none⟩ = false ∧ Blk (w7.setCell ⟨k6, 1, none⟩ v') k6 #[hd, v'] T ∧
    OwnRows (w7.setCell ⟨k6, 1, none⟩ v') B v' (xs ++ [.slice o5 nC c5]) (P ++ [C]) ∧ Avoid k6 v' (xs ++ [.slice o5 nC c5]) ∧ Below w.heap.size w (w7.setCell ⟨k6, 1, none⟩ v') ∧
    (∀ (B' : Nat) (e : TypeId) (size : Nat) (u : Value) (n : Nat) (ys : List Value), w5.ownsRow B' e size u n ys → Apart u (.slice o P.length c) → u.ownBlock ≠ some k6 → (w7.setCell ⟨k6, 1, none⟩ v').ownsRow B' e size u n ys ∧ Apart u v') ∧
    (∀ (g : Nat) (cs : Array Value) (T' : TypeId), Blk w5 g cs T' → g ≠ k6 → (Value.slice o P.length c).ownBlock ≠ some g → Blk (w7.setCell ⟨k6, 1, none⟩ v') g cs T') := by
  subst hnC
  have hO2 := OwnRows.snoc hO hC hap hown hgrow hfr
  have hsh : ∃ o' c', v' = .slice o' (P.length + 1) c' := by
    obtain ⟨o', c', e⟩ := hO2.shape
    exact ⟨o', c', by rw [e]; simp⟩
  have hv : v'.ownBlock ≠ some k6 := by
    rcases hfr with h | h
    · rw [h]; exact av _ (.inl rfl)
    · intro e
      have h1 := h k6 e
      have h2 := kb.lt
      simp at h1; omega
  have av2 : Avoid k6 v' (xs ++ [.slice o5 C.length c5]) := by
    intro y hy
    rcases hy with rfl | hy
    · exact hv
    · rcases List.mem_append.1 hy with hy | hy
      · exact av y (.inr hy)
      · rw [List.mem_singleton] at hy; subst hy; exact avC
  have k7 : Blk w7 k6 #[hd, .slice o P.length c] T := (kb.alloc _).grown hgrow (fun e => av _ (.inl rfl) e.symm)
  have hb7 : Below w.heap.size w w7 := (hb.alloc hb.size _).grown hgrow (by have := hb.size; simp; omega) (fun g hg => Nat.le_trans hB (World.ownsRow.lt hO.outer g hg).1)
  refine ⟨hsh, k7.cell 1 _ rfl, k7.free 1, k7.set 1 v', ownRows_setAvoid hO2 av2 1 v', av2, Below.setCell (p := (⟨k6, 1, none⟩ : Addr)) hb7 hk6 v', ?_, ?_⟩
  · intro B' e size u n ys h ha hk
    have h1 := World.ownsRow.alloc h (.cells #[.slice o5 C.length c5] T2)
    exact ⟨set_apart (World.ownsRow.kept h1 hgrow ha) hk, Apart.next h1 ha hfr⟩
  · intro g cs T' h hg hne
    exact ((h.alloc _).grown hgrow (fun e => hne e.symm)).far ⟨k6, 1, none⟩ v' hg

theorem oldR_le {S S' : Nat} {v : Value} {xs : List Value} (h : OldR S v xs) (hS : S ≤ S') : OldR S' v xs := fun y hy g e => Nat.lt_of_lt_of_le (h y hy g e) hS
theorem apartR_none (v : Value) (xs : List Value) : ApartR v xs (.slice none 0 0) := ⟨Apart.symm (.inl rfl), fun y _ => Apart.symm (.inl rfl)⟩
theorem ownD_none (w : World) (base : Nat) : OwnD w base (.slice none 0 0) [] := ⟨rfl, Or.inl ⟨rfl, rfl⟩⟩
theorem Blk.keepTo {w w' : World} {g B : Nat} {c : Array Value} {T : TypeId} (h : Blk w g c T) (hg : g < B) (hb : Below B w w') : Blk w' g c T := (hb.block g hg).trans h
end Go.Proofs.Ytjbmpnbfiahdhaa
namespace Go.Proofs.Ytjbmpnbfiahdhaa
open Go.RowKit
set_option linter.unusedVariables false
set_option maxRecDepth 100000

theorem OwnI.cur {w w' : World} {B g : Nat} {v : Value} {L : List Int} (h : OwnI w B v L) (hg : w.grownBy w' (some g)) (hB : g < B) : OwnI w' B v L := owns_cur h hg hB
theorem OwnRows.cur {w w' : World} {B g : Nat} {v : Value} {xs : List Value} {R : List (List Int)} (h : OwnRows w B v xs R) (hg : w.grownBy w' (some g)) (hB : g < B) : OwnRows w' B v xs R :=
  ⟨h.len, owns_cur h.outer hg hB, fun j hj => by
    obtain ⟨o, c, h1, h2, h3⟩ := h.rows j hj
    exact ⟨o, c, h1, h2.cur hg hB, h3⟩, h.pair⟩
set_option maxHeartbeats 1600000 in
theorem c_l3RandomRow (g N : Nat) (hN : N ≤ 5) (wide : Int) (hw : wide ≤ 256) (w : World) (hc : Cur w g) :
    Calls Try.prog 193 #[.pointer (some ⟨g, 0, none⟩), .int .i64 N, .int .i64 wide] w fun e w' => ∃ o c L, e = .returned (.slice o (L.length : Nat) c) ∧ OwnI w' w.heap.size (.slice o L.length c) L ∧ L.length = N ∧ Cur w' g ∧ w.grownBy w' (some g) := by
  obtain ⟨i0, hi0, hz0, hz1, hz2⟩ := info_parts info_int
  have hlt := hc.lt
  have hI := OwnI.empty w w.heap.size (Nat.le_refl _)
  have hG := grown_of_below ((Below.refl w.heap.size w).alloc (Nat.le_refl _) (.cells #[] 3)) (some g)
  replace hc := cur_alloc hc (.cells #[] 3)
  go_enter Try.func193, Try.ntmps193
  go_wp2_with fail
  go_loopw [7, 8] (fun v i wr => ∃ (k : Nat) (L : List Int), i = .int .i64 k ∧ L.length = k ∧ k ≤ N ∧ OwnI wr w.heap.size v L ∧ Cur wr g ∧ w.grownBy wr (some g)) (fun _ i _ => N - (intOf i).toNat)
  case atStart => exact ⟨0, [], rfl, rfl, Nat.zero_le _, hI, hc, hG⟩
  case round =>
    clear hI hc hG
    obtain ⟨k, L, rfl, hLk, hk, hI, hc, hG⟩ := hrel
    have hi := hi0
    have HLK : Hid (L.length = k) := hLk
    have HL5 : L.length ≤ 5 := by omega
    clear hLk
    by_cases hlt0 : k < N
    · go_wp2_with fail
      refine (c_l1Below g wide hw _ hc).mono ?_
      rintro e w2 ⟨x, rfl, _, _, _, hc2, hg⟩
      replace hI := hI.cur hg hlt
      replace hG := grown_trans hG hg
      clear hc hg
      go_wp2_with fail
      refine (c_l1Once g 12 (by omega) _ hc2).mono ?_
      rintro e w3 ⟨t, rfl, hc3, hg⟩
      replace hI := hI.cur hg hlt
      replace hG := grown_trans hG hg
      clear hc2 hg
      cases t
      · go_wp2_with (first | (at_builtin; refine wpList_append_own _ rfl _ _ 68 rfl w.heap.size 3 i0 (.int .i64 0) 1 8 Try.underlying68 hi hz0 hz1 hz2 rfl (by decide) _ _ _ rfl (World.ownsRow.alloc hI _) _ 1 1 [.int .i64 (x)] rfl rfl (by intro j u hj; match j, hj with | 0, hj => simp at hj; subst hj; simp [Addr.add]) (by intro u hu; simp at hu; subst hu; rfl) (by unfold maxLen; omega) (by omega) (by have := hG.size; simp; omega) ?_; intro v' w9 hown hgrow _; have hc9 := Cur.grown (cur_alloc hc3 _) hgrow (fun k e => by have := (World.ownsRow.lt hI k e).1; omega); have hG9 := grown_more (grown_trans hG (grown_of_below ((Below.refl _ _).alloc (Nat.le_refl _) _) _)) hgrow (fun k e => (World.ownsRow.lt hI k e).1); replace hI := OwnI.snoc hown; clear hown hgrow hG hc3) | fail)
        go_roundw
        case rel => exact ⟨k + 1, L ++ [x], by go_num, by simp; exact HLK.out, by omega, hI, hc9, hG9⟩
        case measure => simp [intOf]; omega
      · go_wp2_with (first | (at_builtin; refine wpList_append_own _ rfl _ _ 68 rfl w.heap.size 3 i0 (.int .i64 0) 1 8 Try.underlying68 hi hz0 hz1 hz2 rfl (by decide) _ _ _ rfl (World.ownsRow.alloc hI _) _ 1 1 [.int .i64 (-1)] rfl rfl (by intro j u hj; match j, hj with | 0, hj => simp at hj; subst hj; simp [Addr.add]) (by intro u hu; simp at hu; subst hu; rfl) (by unfold maxLen; omega) (by omega) (by have := hG.size; simp; omega) ?_; intro v' w9 hown hgrow _; have hc9 := Cur.grown (cur_alloc hc3 _) hgrow (fun k e => by have := (World.ownsRow.lt hI k e).1; omega); have hG9 := grown_more (grown_trans hG (grown_of_below ((Below.refl _ _).alloc (Nat.le_refl _) _) _)) hgrow (fun k e => (World.ownsRow.lt hI k e).1); replace hI := OwnI.snoc hown; clear hown hgrow hG hc3) | fail)
        go_roundw
        case rel => exact ⟨k + 1, L ++ [-1], by go_num, by simp; exact HLK.out, by omega, hI, hc9, hG9⟩
        case measure => simp [intOf]; omega
    · have HK : Hid (L.length = N) := by show L.length = N; have := HLK.out; omega
      obtain ⟨o, c, rfl⟩ := hI.shape
      go_wp2
      go_ret
      exact ⟨o, c, L, rfl, hI, HK.out, hc, hG⟩
set_option maxHeartbeats 1600000 in
theorem c_l4List (g : Nat) (w : World) (hc : Cur w g) :
    Calls Try.prog 142 #[.pointer (some ⟨g, 0, none⟩)] w fun e w' => ∃ o c L, e = .returned (.slice o (L.length : Nat) c) ∧ OwnI w' w.heap.size (.slice o L.length c) L ∧ L.length ≤ 7 ∧ Cur w' g ∧ w.grownBy w' (some g) := by
  obtain ⟨i0, hi0, hz0, hz1, hz2⟩ := info_parts info_int
  have hi := hi0
  have hlt := hc.lt
  have hI := OwnI.empty w w.heap.size (Nat.le_refl _)
  have hG := grown_of_below ((Below.refl w.heap.size w).alloc (Nat.le_refl _) (.cells #[] 3)) (some g)
  replace hc := cur_alloc hc (.cells #[] 3)
  go_enter Try.func142, Try.ntmps142
  go_wp2_with fail
  refine (c_l1Below g 7 (by omega) _ hc).mono ?_
  rintro e w1 ⟨q, rfl, hq0, hq1, _, hc1, hg⟩
  replace hI := hI.cur hg hlt
  replace hG := grown_trans hG hg
  obtain ⟨k0, rfl⟩ := Int.eq_ofNat_of_zero_le hq0
  have hk0 : k0 ≤ 6 := by have := hq1 (by omega); omega
  clear hc hg hq0 hq1
  go_wp2_with fail
  go_loopw [3, 4] (fun v i wr => ∃ (k : Nat) (L : List Int), i = .int .i64 k ∧ L.length + k ≤ 6 ∧ OwnI wr w.heap.size v L ∧ Cur wr g ∧ w.grownBy wr (some g)) (fun _ i _ => (intOf i).toNat)
  case atStart => exact ⟨k0, [], rfl, by simpa using hk0, hI, hc1, hG⟩
  case round =>
    clear hI hc1 hG
    obtain ⟨k, L, rfl, hk, hI, hc, hG⟩ := hrel
    have hi := hi0
    have HDL : L.length ≤ 6 := by omega
    by_cases hlt0 : 0 < k
    · go_wp2_with fail
      refine (c_l1Below g 32 (by omega) _ hc).mono ?_
      rintro e w2 ⟨x, rfl, _, _, _, hc2, hg⟩
      replace hI := hI.cur hg hlt
      replace hG := grown_trans hG hg
      clear hc hg
      go_wp2_with (first | (at_builtin; refine wpList_append_own _ rfl _ _ 68 rfl w.heap.size 3 i0 (.int .i64 0) 1 8 Try.underlying68 hi hz0 hz1 hz2 rfl (by decide) _ _ _ rfl (World.ownsRow.alloc hI _) _ 1 1 [.int .i64 (x)] rfl rfl (by intro j u hj; match j, hj with | 0, hj => simp at hj; subst hj; simp [Addr.add]) (by intro u hu; simp at hu; subst hu; rfl) (by unfold maxLen; omega) (by omega) (by have := hG.size; simp; omega) ?_; intro v' w9 hown hgrow _; have hc9 := Cur.grown (cur_alloc hc2 _) hgrow (fun k e => by have := (World.ownsRow.lt hI k e).1; omega); have hG9 := grown_more (grown_trans hG (grown_of_below ((Below.refl _ _).alloc (Nat.le_refl _) _) _)) hgrow (fun k e => (World.ownsRow.lt hI k e).1); replace hI := OwnI.snoc hown; clear hown hgrow hG hc2) | fail)
      go_roundw
      case rel => exact ⟨k - 1, L ++ [x], by go_num, by simp; omega, hI, hc9, hG9⟩
      case measure => simp [intOf]; omega
    · have HK : Hid (k = 0) := by show k = 0; omega
      go_wp2_with fail
      refine (c_l1Once g 14 (by omega) _ hc).mono ?_
      rintro e w3 ⟨t, rfl, hc3, hg⟩
      replace hI := hI.cur hg hlt
      replace hG := grown_trans hG hg
      clear hc hg
      cases t
      · obtain ⟨o, c, rfl⟩ := hI.shape
        go_wp2
        go_ret
        exact ⟨o, c, L, rfl, hI, by omega, hc3, hG⟩
      · go_wp2_with fail
        refine (c_l2Any g _ hc3).mono ?_
        rintro e w4 ⟨x, rfl, _, _, hc4, hg⟩
        replace hI := hI.cur hg hlt
        replace hG := grown_trans hG hg
        clear hc3 hg
        go_wp2_with (first | (at_builtin; refine wpList_append_own _ rfl _ _ 68 rfl w.heap.size 3 i0 (.int .i64 0) 1 8 Try.underlying68 hi hz0 hz1 hz2 rfl (by decide) _ _ _ rfl (World.ownsRow.alloc hI _) _ 1 1 [.int .i64 (x)] rfl rfl (by intro j u hj; match j, hj with | 0, hj => simp at hj; subst hj; simp [Addr.add]) (by intro u hu; simp at hu; subst hu; rfl) (by unfold maxLen; omega) (by omega) (by have := hG.size; simp; omega) ?_; intro v' w9 hown hgrow _; have hc9 := Cur.grown (cur_alloc hc4 _) hgrow (fun k e => by have := (World.ownsRow.lt hI k e).1; omega); have hG9 := grown_more (grown_trans hG (grown_of_below ((Below.refl _ _).alloc (Nat.le_refl _) _) _)) hgrow (fun k e => (World.ownsRow.lt hI k e).1); replace hI := OwnI.snoc hown; clear hown hgrow hG hc4) | fail)
        obtain ⟨o', c', rfl⟩ := hI.shape
        have hl9 : (L ++ [x]).length = L.length + 1 := by simp
        go_ret
        exact ⟨o', c', L ++ [x], by simp, hI, by simp; omega, hc9, hG9⟩
end Go.Proofs.Ytjbmpnbfiahdhaa
