/- What the laws do with searches: their size, their copy, their comparison. -/
import Derived.Test.YtkanbnbofoabeaaOpenS
import Derived.Test.YtkanbnbofoabeaaRowsA
namespace Go.Proofs.Ytkanbnbofoabeaa
open Go.RowKit
set_option linter.unusedVariables false
set_option maxRecDepth 100000

theorem c_szIntSSg (oa) (n cap : Nat) (Ln : Nat → Nat) (left : Int) (hl0 : 0 ≤ left) (hl1 : left ≤ 1048576) (w : World) (h : RowsIn w oa n Ln) :
    Calls Try.prog 74 #[.slice oa n cap, .int .i64 left] w fun e w' => (∃ x : Int, e = .returned (.int .i64 x) ∧ (x = -1 ∨ (0 ≤ x ∧ x ≤ left ∧ (n : Int) + sumN Ln n + x = left))) ∧ Below w.heap.size w w' := by
  have hn := h.len
  unfold maxLen at hn
  by_cases hbig : left < n
  · go_enter Try.func74, Try.ntmps74
    go_wp2
    go_ret
    exact ⟨⟨_, rfl, .inl rfl⟩, Below.refl _ _⟩
  go_enter Try.func74, Try.ntmps74
  go_wp2
  go_loopw [1, 5] (fun l i wr => ∃ (x : Int) (k : Nat), l = .int .i64 x ∧ i = .int .i64 k ∧ k ≤ n ∧ 0 ≤ x ∧ x ≤ left ∧ x + (n : Int) + sumN Ln k = left ∧ Below w.heap.size w wr) (fun _ i _ => n - (intOf i).toNat)
  case atStart => exact ⟨_, 0, rfl, rfl, Nat.zero_le _, by omega, by omega, by simp [sumN], Below.refl _ _⟩
  case round =>
    obtain ⟨x, k, rfl, rfl, hk, hx0, hx1, hall, hb⟩ := hrel
    have HA : Hid (x + (n : Int) + sumN Ln k = left) := hall
    have HS : Hid (sumN Ln (k + 1) = sumN Ln k + Ln k) := sumN_succ Ln k
    clear hall
    have hx2 : x ≤ 1048576 := by omega
    by_cases hlt : k < n
    · obtain ⟨b, off, rfl, hbs, hc⟩ := h.rows (by omega)
      obtain ⟨hm, o, c, hc0, _⟩ := hc k hlt
      have hc1 := cell_keep hc0 hb
      clear hc hc0
      by_cases hle : (Ln k : Int) ≤ x
      · have e : (if (Ln k : Int) ≤ x then x - Ln k else -1) = x - Ln k := if_pos hle
        go_wp2_with fail
        refine (show Ans _ _ _ _ (.int .i64 (x - Ln k)) from e ▸ c_szIntS _ _ _ _ ⟨hx0, hx2⟩ hm _).mono ?_
        rintro en w1 ⟨rfl, hbn⟩
        replace hb := bel_to hb hbn
        clear hbn e
        go_wp2
        go_roundw
        case rel => exact ⟨x - Ln k, k + 1, rfl, by go_num, by omega, by omega, by omega, (by have h1 := HA.out; have h2 := HS.out; omega), hb⟩
        case measure => simp [intOf]; omega
      · have e : (if (Ln k : Int) ≤ x then x - Ln k else -1) = -1 := if_neg hle
        go_wp2_with fail
        refine (show Ans _ _ _ _ (.int .i64 (-1)) from e ▸ c_szIntS _ _ _ _ ⟨hx0, hx2⟩ hm _).mono ?_
        rintro en w1 ⟨rfl, hbn⟩
        replace hb := bel_to hb hbn
        clear hbn e
        go_wp2
        go_ret
        exact ⟨⟨_, rfl, .inl rfl⟩, hb⟩
    · have hkk : k = n := by omega
      have HK : Hid (k = n) := hkk
      clear hkk
      go_wp2
      go_ret
      exact ⟨⟨_, rfl, .inr ⟨hx0, by omega, (by have h1 := HA.out; have h2 := HK.out; rw [h2] at h1; omega)⟩⟩, hb⟩
theorem c_szTableg (n : Int) (oa) (l cap : Nat) (Ln : Nat → Nat) (left : Int) (hl0 : 0 ≤ left) (hl1 : left ≤ 1048576) (w : World) (h : RowsIn w oa l Ln) :
    Calls Try.prog 26 #[.agg #[.int .i64 n, .slice oa l cap], .int .i64 left] w fun e w' => (∃ x : Int, e = .returned (.int .i64 x) ∧ (x = -1 ∨ (0 ≤ x ∧ x ≤ left ∧ (l : Int) + sumN Ln l + x = left))) ∧ Below w.heap.size w w' := by
  have hb := (Below.refl w.heap.size w).alloc (Nat.le_refl _) (.cells #[.int .i64 n, .slice oa l cap] 40)
  go_enter Try.func26, Try.ntmps26
  go_wp2_with fail
  refine (c_szIntSSg _ _ _ _ left hl0 hl1 _ (h.keep hb)).mono ?_
  rintro e w1 ⟨⟨x, rfl, hx⟩, hbn⟩
  replace hb := bel_to hb hbn
  clear hbn
  rcases hx with rfl | ⟨h0, h1, h3⟩
  · go_wp2
    go_ret
    exact ⟨⟨_, rfl, .inl rfl⟩, hb⟩
  · have H3 : Hid ((l : Int) + sumN Ln l + x = left) := h3
    clear h3
    go_wp2
    go_ret
    exact ⟨⟨_, rfl, .inr ⟨h0, h1, H3.out⟩⟩, hb⟩
theorem c_szSearch (n m a t : Int) (oa) (l cap : Nat) (Ln : Nat → Nat) (od) (ld cd : Nat) (left : Int) (hl0 : 0 ≤ left) (hl1 : left ≤ 1048576) (w : World) (h : RowsIn w oa l Ln) (hmD : ld ≤ maxLen) :
    Calls Try.prog 30 #[.agg #[.int .i64 n, .slice oa l cap, .int .i64 m, .int .i64 a, .slice od ld cd, .int .i64 t], .int .i64 left] w fun e w' => (∃ x : Int, e = .returned (.int .i64 x) ∧ (x = -1 ∨ (0 ≤ x ∧ x ≤ left ∧ (l : Int) + sumN Ln l ≤ left ∧ (ld : Int) ≤ left))) ∧ Below w.heap.size w w' := by
  have hb := (Below.refl w.heap.size w).alloc (Nat.le_refl _) (.cells #[.int .i64 n, .slice oa l cap, .int .i64 m, .int .i64 a, .slice od ld cd, .int .i64 t] 46)
  have b4 := box_at w #[.int .i64 n, .slice oa l cap, .int .i64 m, .int .i64 a, .slice od ld cd, .int .i64 t] 46 4 _ rfl
  go_enter Try.func30, Try.ntmps30
  go_wp2_with fail
  refine (c_szTableg n _ _ _ _ left hl0 hl1 _ (h.keep hb)).mono ?_
  rintro e w1 ⟨⟨x, rfl, hx⟩, hbn⟩
  replace b4 := cell_keep b4 hbn
  replace hb := bel_to hb hbn
  clear hbn
  rcases hx with rfl | ⟨h0, h1, h3⟩
  · go_wp2
    go_ret
    exact ⟨⟨_, rfl, .inl rfl⟩, hb⟩
  · have H3 : Hid ((l : Int) + sumN Ln l + x = left) := h3
    clear h3
    have hx1 : x ≤ 1048576 := by omega
    by_cases big : x < (ld : Int)
    · go_wp2_with fail
      refine Calls.mono (c_szDepS_no _ _ _ _ ⟨h0, hx1⟩ big hmD _) ?_
      rintro e w2 ⟨rfl, hbn⟩
      replace hb := bel_to hb hbn
      clear hbn
      go_wp2
      go_ret
      exact ⟨⟨_, rfl, .inl rfl⟩, hb⟩
    · have hy0 : 0 ≤ x - (ld : Int) := by omega
      go_wp2_with fail
      refine Calls.mono (c_szDepS_ok _ _ _ _ hx1 (by omega) _) ?_
      rintro e w2 ⟨rfl, hbn⟩
      replace hb := bel_to hb hbn
      clear hbn
      go_wp2
      go_ret
      exact ⟨⟨_, rfl, .inr ⟨by omega, by omega, by have := H3.out; omega, by have := H3.out; omega⟩⟩, hb⟩
theorem c_eqSearch (A B : Sr) (oa ob fa fb) (ca cb fca fcb : Nat) (w : World) (hA : RowsAt w oa A.R) (hB : RowsAt w ob B.R) (hC : DepsAt w fa A.F) (hD : DepsAt w fb B.F) (e : A = B) :
    Ans Try.prog 34 #[.agg #[.int .i64 A.n, .slice oa A.R.length ca, .int .i64 A.m, .int .i64 A.a, .slice fa A.F.length fca, .int .i64 A.t], .agg #[.int .i64 B.n, .slice ob B.R.length cb, .int .i64 B.m, .int .i64 B.a, .slice fb B.F.length fcb, .int .i64 B.t]] w (.bool true) := by
  subst e
  unfold Ans
  have hb := bel2 w (.cells #[.int .i64 A.n, .slice oa A.R.length ca, .int .i64 A.m, .int .i64 A.a, .slice fa A.F.length fca, .int .i64 A.t] 50) (.cells #[.int .i64 A.n, .slice ob A.R.length cb, .int .i64 A.m, .int .i64 A.a, .slice fb A.F.length fcb, .int .i64 A.t] 50)
  have x2 := two_a w #[.int .i64 A.n, .slice oa A.R.length ca, .int .i64 A.m, .int .i64 A.a, .slice fa A.F.length fca, .int .i64 A.t] 50 #[.int .i64 A.n, .slice ob A.R.length cb, .int .i64 A.m, .int .i64 A.a, .slice fb A.F.length fcb, .int .i64 A.t] 50 2 _ rfl
  have x3 := two_a w #[.int .i64 A.n, .slice oa A.R.length ca, .int .i64 A.m, .int .i64 A.a, .slice fa A.F.length fca, .int .i64 A.t] 50 #[.int .i64 A.n, .slice ob A.R.length cb, .int .i64 A.m, .int .i64 A.a, .slice fb A.F.length fcb, .int .i64 A.t] 50 3 _ rfl
  have x4 := two_a w #[.int .i64 A.n, .slice oa A.R.length ca, .int .i64 A.m, .int .i64 A.a, .slice fa A.F.length fca, .int .i64 A.t] 50 #[.int .i64 A.n, .slice ob A.R.length cb, .int .i64 A.m, .int .i64 A.a, .slice fb A.F.length fcb, .int .i64 A.t] 50 4 _ rfl
  have x5 := two_a w #[.int .i64 A.n, .slice oa A.R.length ca, .int .i64 A.m, .int .i64 A.a, .slice fa A.F.length fca, .int .i64 A.t] 50 #[.int .i64 A.n, .slice ob A.R.length cb, .int .i64 A.m, .int .i64 A.a, .slice fb A.F.length fcb, .int .i64 A.t] 50 5 _ rfl
  have y2 := two_b w #[.int .i64 A.n, .slice oa A.R.length ca, .int .i64 A.m, .int .i64 A.a, .slice fa A.F.length fca, .int .i64 A.t] 50 #[.int .i64 A.n, .slice ob A.R.length cb, .int .i64 A.m, .int .i64 A.a, .slice fb A.F.length fcb, .int .i64 A.t] 50 2 _ rfl
  have y3 := two_b w #[.int .i64 A.n, .slice oa A.R.length ca, .int .i64 A.m, .int .i64 A.a, .slice fa A.F.length fca, .int .i64 A.t] 50 #[.int .i64 A.n, .slice ob A.R.length cb, .int .i64 A.m, .int .i64 A.a, .slice fb A.F.length fcb, .int .i64 A.t] 50 3 _ rfl
  have y4 := two_b w #[.int .i64 A.n, .slice oa A.R.length ca, .int .i64 A.m, .int .i64 A.a, .slice fa A.F.length fca, .int .i64 A.t] 50 #[.int .i64 A.n, .slice ob A.R.length cb, .int .i64 A.m, .int .i64 A.a, .slice fb A.F.length fcb, .int .i64 A.t] 50 4 _ rfl
  have y5 := two_b w #[.int .i64 A.n, .slice oa A.R.length ca, .int .i64 A.m, .int .i64 A.a, .slice fa A.F.length fca, .int .i64 A.t] 50 #[.int .i64 A.n, .slice ob A.R.length cb, .int .i64 A.m, .int .i64 A.a, .slice fb A.F.length fcb, .int .i64 A.t] 50 5 _ rfl
  have e1 : (A.m != A.m) = false := by simp
  have e2 : (A.a != A.a) = false := by simp
  have e3 : (A.t != A.t) = false := by simp
  go_enter Try.func34, Try.ntmps34
  go_wp2_with (first | (go_at_call 21; refine Calls.mono (c_eqTable _ _ _ _ _ _ _ (hA.keep hb) (hB.keep hb)) ?_; rintro e w1 ⟨rfl, hbn⟩; replace x2 := cell_keep x2 hbn; replace x3 := cell_keep x3 hbn; replace x4 := cell_keep x4 hbn; replace x5 := cell_keep x5 hbn; replace y2 := cell_keep y2 hbn; replace y3 := cell_keep y3 hbn; replace y4 := cell_keep y4 hbn; replace y5 := cell_keep y5 hbn; replace hb := bel_to (w := w) (by first | exact hb | exact hb.alloc hb.size _ | exact (hb.alloc hb.size _).alloc (Nat.le_trans hb.size (by simp)) _ | exact hb.setCell (by simp [hb.size]) _) hbn; clear hbn) | (go_at_call 22; refine Calls.mono (Ans.eqb (b' := true) (c_eqDepS _ _ _ _ _ _ _ (hC.keep hb) (hD.keep hb)) (by simp)) ?_; rintro e w1 ⟨rfl, hbn⟩; replace x2 := cell_keep x2 hbn; replace x3 := cell_keep x3 hbn; replace x4 := cell_keep x4 hbn; replace x5 := cell_keep x5 hbn; replace y2 := cell_keep y2 hbn; replace y3 := cell_keep y3 hbn; replace y4 := cell_keep y4 hbn; replace y5 := cell_keep y5 hbn; replace hb := bel_to (w := w) (by first | exact hb | exact hb.alloc hb.size _ | exact (hb.alloc hb.size _).alloc (Nat.le_trans hb.size (by simp)) _ | exact hb.setCell (by simp [hb.size]) _) hbn; clear hbn) | fail)
  go_ret
  exact ⟨rfl, hb⟩
def set8 (w : World) (g k : Nat) (a4 a5 b0 b1 b2 b3 b4 b5 : Value) : World := (((((((w.setCell ⟨g, 4, none⟩ a4).setCell ⟨g, 5, none⟩ a5).setCell ⟨k, 0, none⟩ b0).setCell ⟨k, 1, none⟩ b1).setCell ⟨k, 2, none⟩ b2).setCell ⟨k, 3, none⟩ b3).setCell ⟨k, 4, none⟩ b4).setCell ⟨k, 5, none⟩ b5
theorem far8 {w : World} {B : Nat} {v : Value} {xs : List Value} {R : List (List Int)} (h : OwnRows w B v xs R) {g k : Nat} (hg : g < B) (hk : k < B) (a4 a5 b0 b1 b2 b3 b4 b5 : Value) : OwnRows (set8 w g k a4 a5 b0 b1 b2 b3 b4 b5) B v xs R :=
  (((((((h.far_set 4 a4 hg).far_set 5 a5 hg).far_set 0 b0 hk).far_set 1 b1 hk).far_set 2 b2 hk).far_set 3 b3 hk).far_set 4 b4 hk).far_set 5 b5 hk
theorem OwnD.far_set {w : World} {B g : Nat} {v : Value} {D : List (Int × Int)} (h : OwnD w B v D) (j : Nat) (u : Value) (hg : g < B) : OwnD (w.setCell ⟨g, j, none⟩ u) B v D := ownsRow_setCell_below h (a := ⟨g, j, none⟩) hg u
theorem dar8 {w : World} {B : Nat} {v : Value} {D : List (Int × Int)} (h : OwnD w B v D) {g k : Nat} (hg : g < B) (hk : k < B) (a4 a5 b0 b1 b2 b3 b4 b5 : Value) : OwnD (set8 w g k a4 a5 b0 b1 b2 b3 b4 b5) B v D :=
  (((((((OwnD.far_set h 4 a4 hg).far_set 5 a5 hg).far_set 0 b0 hk).far_set 1 b1 hk).far_set 2 b2 hk).far_set 3 b3 hk).far_set 4 b4 hk).far_set 5 b5 hk
theorem bar8 {w0 w : World} {B : Nat} (h : Below B w0 w) {g k : Nat} (hg : B ≤ g) (hk : B ≤ k) (a4 a5 b0 b1 b2 b3 b4 b5 : Value) : Below B w0 (set8 w g k a4 a5 b0 b1 b2 b3 b4 b5) :=
  Below.setCell (p := ⟨k, 5, none⟩) (Below.setCell (p := ⟨k, 4, none⟩) (Below.setCell (p := ⟨k, 3, none⟩) (Below.setCell (p := ⟨k, 2, none⟩) (Below.setCell (p := ⟨k, 1, none⟩) (Below.setCell (p := ⟨k, 0, none⟩) (Below.setCell (p := ⟨g, 5, none⟩) (Below.setCell (p := ⟨g, 4, none⟩) h hg a4) hg a5) hk b0) hk b1) hk b2) hk b3) hk b4) hk b5
def srZ : Array Value := #[.int .i64 0, .slice none 0 0, .int .i64 0, .int .i64 0, .slice none 0 0, .int .i64 0]
set_option maxHeartbeats 1600000 in
theorem c_toSearch (A : Sr) (oa fa) (ca fca : Nat) (w : World) (hA : RowsAt w oa A.R) (hC : DepsAt w fa A.F) :
    Calls Try.prog 32 #[.agg #[.int .i64 A.n, .slice oa A.R.length ca, .int .i64 A.m, .int .i64 A.a, .slice fa A.F.length fca, .int .i64 A.t]] w fun e w' => ∃ o c fo fc xs, e = .returned (.agg #[.int .i64 A.n, .slice o A.R.length c, .int .i64 A.m, .int .i64 A.a, .slice fo A.F.length fc, .int .i64 A.t]) ∧ OwnRows w' w.heap.size (.slice o A.R.length c) xs A.R ∧ OwnD w' w.heap.size (.slice fo A.F.length fc) A.F ∧ ApartR (.slice o A.R.length c) xs (.slice fo A.F.length fc) ∧ Below w.heap.size w w' := by
  have hb0 := ((((Below.refl w.heap.size w).alloc (Nat.le_refl _) (.cells #[.int .i64 A.n, .slice oa A.R.length ca, .int .i64 A.m, .int .i64 A.a, .slice fa A.F.length fca, .int .i64 A.t] 46)).alloc (by simp) (.cells srZ 50)).alloc (by simp; omega) (.cells srZ 50))
  unfold srZ at hb0
  go_enter Try.func32, Try.ntmps32
  go_wp2_with fail
  refine (c_toTableO A.n _ _ A.R _ (hA.keep hb0)).mono ?_
  rintro e w1 ⟨o, c, xs, rfl, hN, hbn⟩
  have kA : Blk w1 w.heap.size #[.int .i64 A.n, .slice oa A.R.length ca, .int .i64 A.m, .int .i64 A.a, .slice fa A.F.length fca, .int .i64 A.t] 46 :=
    (((Blk.new w _ _).alloc _).alloc _).keep hbn
  have kR : Blk w1 (w.heap.size + 1) srZ 50 := by
    have := (Blk.new (w.alloc (.cells #[.int .i64 A.n, .slice oa A.R.length ca, .int .i64 A.m, .int .i64 A.a, .slice fa A.F.length fca, .int .i64 A.t] 46)) srZ 50).alloc (.cells srZ 50)
    simp only [World.size_alloc] at this
    exact this.keep hbn
  have kT : Blk w1 (w.heap.size + 1 + 1) srZ 50 := by
    have := Blk.new ((w.alloc (.cells #[.int .i64 A.n, .slice oa A.R.length ca, .int .i64 A.m, .int .i64 A.a, .slice fa A.F.length fca, .int .i64 A.t] 46)).alloc (.cells srZ 50)) srZ 50
    simp only [World.size_alloc] at this
    exact this.keep hbn
  have p2 := kA.cell 2 _ rfl
  have p3 := kA.cell 3 _ rfl
  have p4 := kA.cell 4 _ rfl
  have t0 := kT.cell 0 _ rfl
  have t1 := kT.cell 1 _ rfl
  have t2 := kT.cell 2 _ rfl
  have t3 := kT.cell 3 _ rfl
  have s0 := kT.free 0
  have s1 := kT.free 1
  have s2 := kT.free 2
  have s3 := kT.free 3
  have hb1 := bel_to hb0 hbn
  have hbD : Below w.heap.size w ((((w1.setCell ⟨w.heap.size + 1 + 1, 0, none⟩ (.int .i64 A.n)).setCell ⟨w.heap.size + 1 + 1, 1, none⟩ (.slice o A.R.length c)).setCell ⟨w.heap.size + 1 + 1, 2, none⟩ (.int .i64 A.m)).setCell ⟨w.heap.size + 1 + 1, 3, none⟩ (.int .i64 A.a)) :=
    Below.setCell (Below.setCell (Below.setCell (Below.setCell hb1 (by simp; omega) _) (by simp; omega) _) (by simp; omega) _) (by simp; omega) _
  have hN2 := (((hN.far_set (g := w.heap.size + 1 + 1) 0 (.int .i64 A.n) (by simp)).far_set (g := w.heap.size + 1 + 1) 1 (.slice o A.R.length c) (by simp)).far_set (g := w.heap.size + 1 + 1) 2 (.int .i64 A.m) (by simp)).far_set (g := w.heap.size + 1 + 1) 3 (.int .i64 A.a) (by simp)
  have kT2 := (((kT.set 0 (.int .i64 A.n)).set 1 (.slice o A.R.length c)).set 2 (.int .i64 A.m)).set 3 (.int .i64 A.a)
  have kR2 := (((kR.far ⟨w.heap.size + 1 + 1, 0, none⟩ (.int .i64 A.n) (by simp)).far ⟨w.heap.size + 1 + 1, 1, none⟩ (.slice o A.R.length c) (by simp)).far ⟨w.heap.size + 1 + 1, 2, none⟩ (.int .i64 A.m) (by simp)).far ⟨w.heap.size + 1 + 1, 3, none⟩ (.int .i64 A.a) (by simp)
  have kA2 := (((kA.far ⟨w.heap.size + 1 + 1, 0, none⟩ (.int .i64 A.n) (by simp; omega)).far ⟨w.heap.size + 1 + 1, 1, none⟩ (.slice o A.R.length c) (by simp; omega)).far ⟨w.heap.size + 1 + 1, 2, none⟩ (.int .i64 A.m) (by simp; omega)).far ⟨w.heap.size + 1 + 1, 3, none⟩ (.int .i64 A.a) (by simp; omega)
  clear hbn kA kR kT hN hb1
  go_wp2_with fail
  refine (c_toDepS _ _ _ _ (hC.keep hbD)).mono ?_
  rintro e w2 ⟨v2, rfl, hO, hbn⟩
  have ap := hN2.fresh hO
  obtain ⟨fo, fc, rfl⟩ := hO.shape
  have hbase : w.heap.size + 1 + 1 + 1 ≤ w1.heap.size := by have h9 := World.block_lt_of_cell? _ _ t0; simp at h9; omega
  replace hO := hO.based (show w.heap.size + 1 + 1 + 1 ≤ _ by simp; omega)
  have hN3 := hN2.keep hbn
  have kT3 := kT2.keep hbn
  have kR3 := kR2.keep hbn
  have kA3 := kA2.keep hbn
  have hb2 := bel_to hbD hbn
  clear hbn hN2 kT2 kR2 kA2 hbD p2 p3 p4 t0 t1 t2 t3 s0 s1 s2 s3
  have p5 := kA3.cell 5 (.int .i64 A.t) rfl
  have t0 := kT3.cell 0 (.int .i64 A.n) rfl
  have t1 := kT3.cell 1 (.slice o A.R.length c) rfl
  have t2 := kT3.cell 2 (.int .i64 A.m) rfl
  have t3 := kT3.cell 3 (.int .i64 A.a) rfl
  have t4 := kT3.cell 4 (.slice none 0 0) rfl
  have t5 := kT3.cell 5 (.int .i64 0) rfl
  have s4 := kT3.free 4
  have s5 := kT3.free 5
  have r0 := kR3.cell 0 (.int .i64 0) rfl
  have r1 := kR3.cell 1 (.slice none 0 0) rfl
  have r2 := kR3.cell 2 (.int .i64 0) rfl
  have r3 := kR3.cell 3 (.int .i64 0) rfl
  have r4 := kR3.cell 4 (.slice none 0 0) rfl
  have r5 := kR3.cell 5 (.int .i64 0) rfl
  have q0 := kR3.free 0
  have q1 := kR3.free 1
  have q2 := kR3.free 2
  have q3 := kR3.free 3
  have q4 := kR3.free 4
  have q5 := kR3.free 5
  clear kT3 kR3 kA3
  go_wp2
  have x1 := far8 hN3 (g := w.heap.size + 1 + 1) (k := w.heap.size + 1) (by simp) (by simp <;> omega) (.slice fo A.F.length fc) (.int .i64 A.t) (.int .i64 A.n) (.slice o A.R.length c) (.int .i64 A.m) (.int .i64 A.a) (.slice fo A.F.length fc) (.int .i64 A.t)
  have x2 := dar8 hO (g := w.heap.size + 1 + 1) (k := w.heap.size + 1) (by omega) (by omega) (.slice fo A.F.length fc) (.int .i64 A.t) (.int .i64 A.n) (.slice o A.R.length c) (.int .i64 A.m) (.int .i64 A.a) (.slice fo A.F.length fc) (.int .i64 A.t)
  have x3 := bar8 hb2 (g := w.heap.size + 1 + 1) (k := w.heap.size + 1) (by omega) (by omega) (.slice fo A.F.length fc) (.int .i64 A.t) (.int .i64 A.n) (.slice o A.R.length c) (.int .i64 A.m) (.int .i64 A.a) (.slice fo A.F.length fc) (.int .i64 A.t)
  exact bodyPost_ret (v := .agg #[.int .i64 A.n, .slice o A.R.length c, .int .i64 A.m, .int .i64 A.a, .slice fo A.F.length fc, .int .i64 A.t]) (by simp [results, Try.results32, go_sem, r0, r1, r2, r3, r4, r5]) rfl
    ⟨o, c, fo, fc, xs, rfl, x1.based (by simp <;> omega), x2.based (by omega), ap, x3⟩
end Go.Proofs.Ytkanbnbofoabeaa
