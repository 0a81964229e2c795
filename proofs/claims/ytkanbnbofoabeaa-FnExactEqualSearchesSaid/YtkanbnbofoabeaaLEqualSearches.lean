/- The law of EqualSearches returns true. -/
import Derived.Test.YtkanbnbofoabeaaSrL
import Derived.Deep.RegionHeld3
namespace Go.Proofs.Ytkanbnbofoabeaa
open Go.RowKit
set_option linter.unusedVariables false
set_option maxRecDepth 100000

set_option maxHeartbeats 6400000 in
theorem w_FnExactEqualSearches (w : World) {vS : Value} (inS : InSr w vS) {vU : Value} (inU : InSr w vU) :
    Calls Try.prog 5 #[vS, vU] w fun e w' => e = .returned (.bool true) ∧ Below w.heap.size w w' := by
  obtain ⟨n, m, a, t, oT, lT, cT, Ln, vD, rfl, hRI, ⟨oD, lD, cD, rfl, hmD, hDin⟩, _, _, _⟩ := inS
  obtain ⟨n', m', a', t', oT', lT', cT', Ln', vD', rfl, hRI', ⟨oD', lD', cD', rfl, hmD', hDin'⟩, _, _, _⟩ := inU
  have hb := bel2 w (.cells #[.int .i64 n, .slice oT lT cT, .int .i64 m, .int .i64 a, .slice oD lD cD, .int .i64 t] 46) (.cells #[.int .i64 n', .slice oT' lT' cT', .int .i64 m', .int .i64 a', .slice oD' lD' cD', .int .i64 t'] 46)
  have p0 := two_a w #[.int .i64 n, .slice oT lT cT, .int .i64 m, .int .i64 a, .slice oD lD cD, .int .i64 t] 46 #[.int .i64 n', .slice oT' lT' cT', .int .i64 m', .int .i64 a', .slice oD' lD' cD', .int .i64 t'] 46 0 _ rfl
  have p1 := two_a w #[.int .i64 n, .slice oT lT cT, .int .i64 m, .int .i64 a, .slice oD lD cD, .int .i64 t] 46 #[.int .i64 n', .slice oT' lT' cT', .int .i64 m', .int .i64 a', .slice oD' lD' cD', .int .i64 t'] 46 1 _ rfl
  have p2 := two_a w #[.int .i64 n, .slice oT lT cT, .int .i64 m, .int .i64 a, .slice oD lD cD, .int .i64 t] 46 #[.int .i64 n', .slice oT' lT' cT', .int .i64 m', .int .i64 a', .slice oD' lD' cD', .int .i64 t'] 46 2 _ rfl
  have p3 := two_a w #[.int .i64 n, .slice oT lT cT, .int .i64 m, .int .i64 a, .slice oD lD cD, .int .i64 t] 46 #[.int .i64 n', .slice oT' lT' cT', .int .i64 m', .int .i64 a', .slice oD' lD' cD', .int .i64 t'] 46 3 _ rfl
  have p4 := two_a w #[.int .i64 n, .slice oT lT cT, .int .i64 m, .int .i64 a, .slice oD lD cD, .int .i64 t] 46 #[.int .i64 n', .slice oT' lT' cT', .int .i64 m', .int .i64 a', .slice oD' lD' cD', .int .i64 t'] 46 4 _ rfl
  have p5 := two_a w #[.int .i64 n, .slice oT lT cT, .int .i64 m, .int .i64 a, .slice oD lD cD, .int .i64 t] 46 #[.int .i64 n', .slice oT' lT' cT', .int .i64 m', .int .i64 a', .slice oD' lD' cD', .int .i64 t'] 46 5 _ rfl
  have u0 := two_b w #[.int .i64 n, .slice oT lT cT, .int .i64 m, .int .i64 a, .slice oD lD cD, .int .i64 t] 46 #[.int .i64 n', .slice oT' lT' cT', .int .i64 m', .int .i64 a', .slice oD' lD' cD', .int .i64 t'] 46 0 _ rfl
  have u1 := two_b w #[.int .i64 n, .slice oT lT cT, .int .i64 m, .int .i64 a, .slice oD lD cD, .int .i64 t] 46 #[.int .i64 n', .slice oT' lT' cT', .int .i64 m', .int .i64 a', .slice oD' lD' cD', .int .i64 t'] 46 1 _ rfl
  have u2 := two_b w #[.int .i64 n, .slice oT lT cT, .int .i64 m, .int .i64 a, .slice oD lD cD, .int .i64 t] 46 #[.int .i64 n', .slice oT' lT' cT', .int .i64 m', .int .i64 a', .slice oD' lD' cD', .int .i64 t'] 46 2 _ rfl
  have u3 := two_b w #[.int .i64 n, .slice oT lT cT, .int .i64 m, .int .i64 a, .slice oD lD cD, .int .i64 t] 46 #[.int .i64 n', .slice oT' lT' cT', .int .i64 m', .int .i64 a', .slice oD' lD' cD', .int .i64 t'] 46 3 _ rfl
  have u4 := two_b w #[.int .i64 n, .slice oT lT cT, .int .i64 m, .int .i64 a, .slice oD lD cD, .int .i64 t] 46 #[.int .i64 n', .slice oT' lT' cT', .int .i64 m', .int .i64 a', .slice oD' lD' cD', .int .i64 t'] 46 4 _ rfl
  have u5 := two_b w #[.int .i64 n, .slice oT lT cT, .int .i64 m, .int .i64 a, .slice oD lD cD, .int .i64 t] 46 #[.int .i64 n', .slice oT' lT' cT', .int .i64 m', .int .i64 a', .slice oD' lD' cD', .int .i64 t'] 46 5 _ rfl
  go_enter Try.func5, Try.ntmps5
  go_wp2_with fail
  refine (c_szSearch n m a t _ _ _ _ _ _ _ 1048576 (by omega) (by omega) _ (hRI.keep hb) hmD).mono ?_
  rintro e w0 ⟨⟨x, rfl, hx⟩, hbn⟩
  replace p0 := cell_keep p0 hbn
  replace p1 := cell_keep p1 hbn
  replace p2 := cell_keep p2 hbn
  replace p3 := cell_keep p3 hbn
  replace p4 := cell_keep p4 hbn
  replace p5 := cell_keep p5 hbn
  replace u0 := cell_keep u0 hbn
  replace u1 := cell_keep u1 hbn
  replace u2 := cell_keep u2 hbn
  replace u3 := cell_keep u3 hbn
  replace u4 := cell_keep u4 hbn
  replace u5 := cell_keep u5 hbn
  replace hb := bel_to hb hbn
  clear hbn
  rcases hx with rfl | ⟨hx0, hx1, hx2, hx3⟩
  · go_wp2
    go_ret
    exact ⟨rfl, hb⟩
  go_wp2_with fail
  refine (c_szSearch n' m' a' t' _ _ _ _ _ _ _ x hx0 hx1 _ (hRI'.keep hb) hmD').mono ?_
  rintro e wy ⟨⟨y, rfl, hy⟩, hbn⟩
  replace p0 := cell_keep p0 hbn
  replace p1 := cell_keep p1 hbn
  replace p2 := cell_keep p2 hbn
  replace p3 := cell_keep p3 hbn
  replace p4 := cell_keep p4 hbn
  replace p5 := cell_keep p5 hbn
  replace u0 := cell_keep u0 hbn
  replace u1 := cell_keep u1 hbn
  replace u2 := cell_keep u2 hbn
  replace u3 := cell_keep u3 hbn
  replace u4 := cell_keep u4 hbn
  replace u5 := cell_keep u5 hbn
  replace hb := bel_to hb hbn
  clear hbn
  rcases hy with rfl | ⟨hy0, hy1, hy2, hy3⟩
  · go_wp2
    go_ret
    exact ⟨rfl, hb⟩
  obtain ⟨R0, rfl, hR0, hRl0⟩ := hRI.reads (by unfold Room; omega) (fun r hr => by have := sumN_one (Ln := Ln) hr; unfold Room; omega)
  obtain ⟨D0, rfl, hD0⟩ := hDin (room_of (by omega))
  have hsum0 : (sumL R0 R0.length : Int) + R0.length ≤ 1048576 := by rw [sumL_sumN hRl0 R0.length (Nat.le_refl _)]; omega
  have hDs0 : (D0.length : Int) ≤ 1048576 := by omega
  have hRoom0 : R0.length ≤ Room := hR0.len
  have hDl0 : D0.length ≤ Room := hD0.len
  have HRr0 : Hid (∀ j, j < R0.length → (row R0 j).length ≤ Room) := fun j hj => by rw [hRl0 j hj]; have := sumN_one (Ln := Ln) hj; unfold Room; omega
  clear hx2 hx3 hRl0 hRI hmD hDin
  obtain ⟨A, rfl, rfl, rfl, rfl, rfl, rfl⟩ : ∃ A : Sr, n = A.n ∧ R0 = A.R ∧ m = A.m ∧ a = A.a ∧ D0 = A.F ∧ t = A.t := ⟨⟨n, R0, m, a, D0, t⟩, rfl, rfl, rfl, rfl, rfl, rfl⟩
  obtain ⟨R1, rfl, hR1, hRl1⟩ := hRI'.reads (by unfold Room; omega) (fun r hr => by have := sumN_one (Ln := Ln') hr; unfold Room; omega)
  obtain ⟨D1, rfl, hD1⟩ := hDin' (room_of (by omega))
  have hsum1 : (sumL R1 R1.length : Int) + R1.length ≤ 1048576 := by rw [sumL_sumN hRl1 R1.length (Nat.le_refl _)]; omega
  have hDs1 : (D1.length : Int) ≤ 1048576 := by omega
  have hRoom1 : R1.length ≤ Room := hR1.len
  have hDl1 : D1.length ≤ Room := hD1.len
  have HRr1 : Hid (∀ j, j < R1.length → (row R1 j).length ≤ Room) := fun j hj => by rw [hRl1 j hj]; have := sumN_one (Ln := Ln') hj; unfold Room; omega
  clear hy2 hy3 hRl1 hRI' hmD' hDin'
  obtain ⟨B, rfl, rfl, rfl, rfl, rfl, rfl⟩ : ∃ A : Sr, n' = A.n ∧ R1 = A.R ∧ m' = A.m ∧ a' = A.a ∧ D1 = A.F ∧ t' = A.t := ⟨⟨n', R1, m', a', D1, t'⟩, rfl, rfl, rfl, rfl, rfl, rfl⟩
  have tok : True := trivial
  go_wp2_with fail
  go_region_held3 (fun w' => w'.cell? ⟨w.heap.size, 0, none⟩ = some (.int .i64 A.n) ∧ w'.cell? ⟨w.heap.size, 1, none⟩ = some (.slice oT A.R.length cT) ∧ w'.cell? ⟨w.heap.size, 2, none⟩ = some (.int .i64 A.m) ∧ w'.cell? ⟨w.heap.size, 3, none⟩ = some (.int .i64 A.a) ∧ w'.cell? ⟨w.heap.size, 4, none⟩ = some (.slice oD A.F.length cD) ∧ w'.cell? ⟨w.heap.size, 5, none⟩ = some (.int .i64 A.t) ∧ w'.cell? ⟨w.heap.size + 1, 0, none⟩ = some (.int .i64 B.n) ∧ w'.cell? ⟨w.heap.size + 1, 1, none⟩ = some (.slice oT' B.R.length cT') ∧ w'.cell? ⟨w.heap.size + 1, 2, none⟩ = some (.int .i64 B.m) ∧ w'.cell? ⟨w.heap.size + 1, 3, none⟩ = some (.int .i64 B.a) ∧ w'.cell? ⟨w.heap.size + 1, 4, none⟩ = some (.slice oD' B.F.length cD') ∧ w'.cell? ⟨w.heap.size + 1, 5, none⟩ = some (.int .i64 B.t) ∧ Below w.heap.size w w')
    (first | (rename_i hS _ _; exact ⟨cell_keep hS.1 hbn, cell_keep hS.2.1 hbn, cell_keep hS.2.2.1 hbn, cell_keep hS.2.2.2.1 hbn, cell_keep hS.2.2.2.2.1 hbn, cell_keep hS.2.2.2.2.2.1 hbn, cell_keep hS.2.2.2.2.2.2.1 hbn, cell_keep hS.2.2.2.2.2.2.2.1 hbn, cell_keep hS.2.2.2.2.2.2.2.2.1 hbn, cell_keep hS.2.2.2.2.2.2.2.2.2.1 hbn, cell_keep hS.2.2.2.2.2.2.2.2.2.2.1 hbn, cell_keep hS.2.2.2.2.2.2.2.2.2.2.2.1 hbn, bel_to hS.2.2.2.2.2.2.2.2.2.2.2.2 hbn⟩) | exact ⟨cell_keep p0 (Below.refl _ _).drew, cell_keep p1 (Below.refl _ _).drew, cell_keep p2 (Below.refl _ _).drew, cell_keep p3 (Below.refl _ _).drew, cell_keep p4 (Below.refl _ _).drew, cell_keep p5 (Below.refl _ _).drew, cell_keep u0 (Below.refl _ _).drew, cell_keep u1 (Below.refl _ _).drew, cell_keep u2 (Below.refl _ _).drew, cell_keep u3 (Below.refl _ _).drew, cell_keep u4 (Below.refl _ _).drew, cell_keep u5 (Below.refl _ _).drew, hb.drew⟩)
    (first
      | (go_at_call 32; clear tok; rename_i hS _ _; refine (c_toSearch A _ _ _ _ _ (hR0.keep hS.2.2.2.2.2.2.2.2.2.2.2.2) (hD0.keep hS.2.2.2.2.2.2.2.2.2.2.2.2)).mono ?_; rintro e wz ⟨oz, cz, fz, gz, xsz, rfl, hOz, hFz, apz, hbn⟩; have rz := hOz.read hRoom0 HRr0.out; have dz := hFz.deps rfl hDl0)
      | (go_at_call 32; rename_i hS _ _; refine (c_toSearch B _ _ _ _ _ (hR1.keep hS.2.2.2.2.2.2.2.2.2.2.2.2) (hD1.keep hS.2.2.2.2.2.2.2.2.2.2.2.2)).mono ?_; rintro e wz ⟨oy, cy, fy, gy, xsy, rfl, hOy, hFy, apy, hbn⟩; have ry := hOy.read hRoom1 HRr1.out; have dy := hFy.deps rfl hDl1; replace rz := rz.keep hbn; replace dz := dz.keep hbn)
      | (go_at_call 31; refine Calls.mono (c_specEqualSearches A B _ _ _ _ _ _ _ _ _ rz ry dz dy) ?_; rintro e wz ⟨rfl, hbn⟩)
      | fail)
  rename_i hS
  replace p0 := hS.1
  replace p1 := hS.2.1
  replace p2 := hS.2.2.1
  replace p3 := hS.2.2.2.1
  replace p4 := hS.2.2.2.2.1
  replace p5 := hS.2.2.2.2.2.1
  replace u0 := hS.2.2.2.2.2.2.1
  replace u1 := hS.2.2.2.2.2.2.2.1
  replace u2 := hS.2.2.2.2.2.2.2.2.1
  replace u3 := hS.2.2.2.2.2.2.2.2.2.1
  replace u4 := hS.2.2.2.2.2.2.2.2.2.2.1
  replace u5 := hS.2.2.2.2.2.2.2.2.2.2.2.1
  replace hb := hS.2.2.2.2.2.2.2.2.2.2.2.2
  clear hS
  clear hbn rz dz ry dy hOz hFz apz hOy hFy apy
  go_wp2_with fail
  refine (c_toSearch A _ _ _ _ _ (hR0.keep hb) (hD0.keep hb)).mono ?_
  rintro e w1 ⟨oX, cX, fX, gX, xsX, rfl, hOX, hFX, apX, hbn⟩
  have rX := hOX.read hRoom0 HRr0.out
  have dX := hFX.deps rfl hDl0
  replace p0 := cell_keep p0 hbn
  replace p1 := cell_keep p1 hbn
  replace p2 := cell_keep p2 hbn
  replace p3 := cell_keep p3 hbn
  replace p4 := cell_keep p4 hbn
  replace p5 := cell_keep p5 hbn
  replace u0 := cell_keep u0 hbn
  replace u1 := cell_keep u1 hbn
  replace u2 := cell_keep u2 hbn
  replace u3 := cell_keep u3 hbn
  replace u4 := cell_keep u4 hbn
  replace u5 := cell_keep u5 hbn
  replace hb := bel_to hb hbn
  clear hbn hOX hFX apX
  have bX0 := box_at w1 #[.int .i64 A.n, .slice oX A.R.length cX, .int .i64 A.m, .int .i64 A.a, .slice fX A.F.length gX, .int .i64 A.t] 50 0 _ rfl
  have bX1 := box_at w1 #[.int .i64 A.n, .slice oX A.R.length cX, .int .i64 A.m, .int .i64 A.a, .slice fX A.F.length gX, .int .i64 A.t] 50 1 _ rfl
  have bX2 := box_at w1 #[.int .i64 A.n, .slice oX A.R.length cX, .int .i64 A.m, .int .i64 A.a, .slice fX A.F.length gX, .int .i64 A.t] 50 2 _ rfl
  have bX3 := box_at w1 #[.int .i64 A.n, .slice oX A.R.length cX, .int .i64 A.m, .int .i64 A.a, .slice fX A.F.length gX, .int .i64 A.t] 50 3 _ rfl
  have bX4 := box_at w1 #[.int .i64 A.n, .slice oX A.R.length cX, .int .i64 A.m, .int .i64 A.a, .slice fX A.F.length gX, .int .i64 A.t] 50 4 _ rfl
  have bX5 := box_at w1 #[.int .i64 A.n, .slice oX A.R.length cX, .int .i64 A.m, .int .i64 A.a, .slice fX A.F.length gX, .int .i64 A.t] 50 5 _ rfl
  have hbn := (Below.refl w1.heap.size w1).alloc (Nat.le_refl _) (.cells #[.int .i64 A.n, .slice oX A.R.length cX, .int .i64 A.m, .int .i64 A.a, .slice fX A.F.length gX, .int .i64 A.t] 50)
  replace p0 := cell_keep p0 hbn
  replace p1 := cell_keep p1 hbn
  replace p2 := cell_keep p2 hbn
  replace p3 := cell_keep p3 hbn
  replace p4 := cell_keep p4 hbn
  replace p5 := cell_keep p5 hbn
  replace u0 := cell_keep u0 hbn
  replace u1 := cell_keep u1 hbn
  replace u2 := cell_keep u2 hbn
  replace u3 := cell_keep u3 hbn
  replace u4 := cell_keep u4 hbn
  replace u5 := cell_keep u5 hbn
  replace rX := rX.keep hbn
  replace dX := dX.keep hbn
  replace hb := bel_to hb hbn
  clear hbn
  go_wp2_with fail
  refine (c_toSearch B _ _ _ _ _ (hR1.keep hb) (hD1.keep hb)).mono ?_
  rintro e w2 ⟨oY, cY, fY, gY, xsY, rfl, hOY, hFY, apY, hbn⟩
  have rY := hOY.read hRoom1 HRr1.out
  have dY := hFY.deps rfl hDl1
  replace p0 := cell_keep p0 hbn
  replace p1 := cell_keep p1 hbn
  replace p2 := cell_keep p2 hbn
  replace p3 := cell_keep p3 hbn
  replace p4 := cell_keep p4 hbn
  replace p5 := cell_keep p5 hbn
  replace u0 := cell_keep u0 hbn
  replace u1 := cell_keep u1 hbn
  replace u2 := cell_keep u2 hbn
  replace u3 := cell_keep u3 hbn
  replace u4 := cell_keep u4 hbn
  replace u5 := cell_keep u5 hbn
  replace bX0 := cell_keep bX0 hbn
  replace bX1 := cell_keep bX1 hbn
  replace bX2 := cell_keep bX2 hbn
  replace bX3 := cell_keep bX3 hbn
  replace bX4 := cell_keep bX4 hbn
  replace bX5 := cell_keep bX5 hbn
  replace rX := rX.keep hbn
  replace dX := dX.keep hbn
  replace hb := bel_to hb hbn
  clear hbn hOY hFY apY
  have bY0 := box_at w2 #[.int .i64 B.n, .slice oY B.R.length cY, .int .i64 B.m, .int .i64 B.a, .slice fY B.F.length gY, .int .i64 B.t] 50 0 _ rfl
  have bY1 := box_at w2 #[.int .i64 B.n, .slice oY B.R.length cY, .int .i64 B.m, .int .i64 B.a, .slice fY B.F.length gY, .int .i64 B.t] 50 1 _ rfl
  have bY2 := box_at w2 #[.int .i64 B.n, .slice oY B.R.length cY, .int .i64 B.m, .int .i64 B.a, .slice fY B.F.length gY, .int .i64 B.t] 50 2 _ rfl
  have bY3 := box_at w2 #[.int .i64 B.n, .slice oY B.R.length cY, .int .i64 B.m, .int .i64 B.a, .slice fY B.F.length gY, .int .i64 B.t] 50 3 _ rfl
  have bY4 := box_at w2 #[.int .i64 B.n, .slice oY B.R.length cY, .int .i64 B.m, .int .i64 B.a, .slice fY B.F.length gY, .int .i64 B.t] 50 4 _ rfl
  have bY5 := box_at w2 #[.int .i64 B.n, .slice oY B.R.length cY, .int .i64 B.m, .int .i64 B.a, .slice fY B.F.length gY, .int .i64 B.t] 50 5 _ rfl
  have hbn := (Below.refl w2.heap.size w2).alloc (Nat.le_refl _) (.cells #[.int .i64 B.n, .slice oY B.R.length cY, .int .i64 B.m, .int .i64 B.a, .slice fY B.F.length gY, .int .i64 B.t] 50)
  replace p0 := cell_keep p0 hbn
  replace p1 := cell_keep p1 hbn
  replace p2 := cell_keep p2 hbn
  replace p3 := cell_keep p3 hbn
  replace p4 := cell_keep p4 hbn
  replace p5 := cell_keep p5 hbn
  replace u0 := cell_keep u0 hbn
  replace u1 := cell_keep u1 hbn
  replace u2 := cell_keep u2 hbn
  replace u3 := cell_keep u3 hbn
  replace u4 := cell_keep u4 hbn
  replace u5 := cell_keep u5 hbn
  replace bX0 := cell_keep bX0 hbn
  replace bX1 := cell_keep bX1 hbn
  replace bX2 := cell_keep bX2 hbn
  replace bX3 := cell_keep bX3 hbn
  replace bX4 := cell_keep bX4 hbn
  replace bX5 := cell_keep bX5 hbn
  replace rX := rX.keep hbn
  replace dX := dX.keep hbn
  replace rY := rY.keep hbn
  replace dY := dY.keep hbn
  replace hb := bel_to hb hbn
  clear hbn
  go_wp2_with fail
  refine Calls.mono (c_EqualSearches A B _ _ _ _ _ _ _ _ _ rX rY dX dY) ?_
  rintro e w3 ⟨rfl, hbn⟩
  replace p0 := cell_keep p0 hbn
  replace p1 := cell_keep p1 hbn
  replace p2 := cell_keep p2 hbn
  replace p3 := cell_keep p3 hbn
  replace p4 := cell_keep p4 hbn
  replace p5 := cell_keep p5 hbn
  replace u0 := cell_keep u0 hbn
  replace u1 := cell_keep u1 hbn
  replace u2 := cell_keep u2 hbn
  replace u3 := cell_keep u3 hbn
  replace u4 := cell_keep u4 hbn
  replace u5 := cell_keep u5 hbn
  replace bX0 := cell_keep bX0 hbn
  replace bX1 := cell_keep bX1 hbn
  replace bX2 := cell_keep bX2 hbn
  replace bX3 := cell_keep bX3 hbn
  replace bX4 := cell_keep bX4 hbn
  replace bX5 := cell_keep bX5 hbn
  replace bY0 := cell_keep bY0 hbn
  replace bY1 := cell_keep bY1 hbn
  replace bY2 := cell_keep bY2 hbn
  replace bY3 := cell_keep bY3 hbn
  replace bY4 := cell_keep bY4 hbn
  replace bY5 := cell_keep bY5 hbn
  replace rX := rX.keep hbn
  replace dX := dX.keep hbn
  replace rY := rY.keep hbn
  replace dY := dY.keep hbn
  replace hb := bel_to hb hbn
  clear hbn
  go_wp2_with fail
  go_region_held3 (fun w' => w'.cell? ⟨w.heap.size, 0, none⟩ = some (.int .i64 A.n) ∧ w'.cell? ⟨w.heap.size, 1, none⟩ = some (.slice oT A.R.length cT) ∧ w'.cell? ⟨w.heap.size, 2, none⟩ = some (.int .i64 A.m) ∧ w'.cell? ⟨w.heap.size, 3, none⟩ = some (.int .i64 A.a) ∧ w'.cell? ⟨w.heap.size, 4, none⟩ = some (.slice oD A.F.length cD) ∧ w'.cell? ⟨w.heap.size, 5, none⟩ = some (.int .i64 A.t) ∧ w'.cell? ⟨w.heap.size + 1, 0, none⟩ = some (.int .i64 B.n) ∧ w'.cell? ⟨w.heap.size + 1, 1, none⟩ = some (.slice oT' B.R.length cT') ∧ w'.cell? ⟨w.heap.size + 1, 2, none⟩ = some (.int .i64 B.m) ∧ w'.cell? ⟨w.heap.size + 1, 3, none⟩ = some (.int .i64 B.a) ∧ w'.cell? ⟨w.heap.size + 1, 4, none⟩ = some (.slice oD' B.F.length cD') ∧ w'.cell? ⟨w.heap.size + 1, 5, none⟩ = some (.int .i64 B.t) ∧ w'.cell? ⟨w1.heap.size, 0, none⟩ = some (.int .i64 A.n) ∧ w'.cell? ⟨w1.heap.size, 1, none⟩ = some (.slice oX A.R.length cX) ∧ w'.cell? ⟨w1.heap.size, 2, none⟩ = some (.int .i64 A.m) ∧ w'.cell? ⟨w1.heap.size, 3, none⟩ = some (.int .i64 A.a) ∧ w'.cell? ⟨w1.heap.size, 4, none⟩ = some (.slice fX A.F.length gX) ∧ w'.cell? ⟨w1.heap.size, 5, none⟩ = some (.int .i64 A.t) ∧ w'.cell? ⟨w2.heap.size, 0, none⟩ = some (.int .i64 B.n) ∧ w'.cell? ⟨w2.heap.size, 1, none⟩ = some (.slice oY B.R.length cY) ∧ w'.cell? ⟨w2.heap.size, 2, none⟩ = some (.int .i64 B.m) ∧ w'.cell? ⟨w2.heap.size, 3, none⟩ = some (.int .i64 B.a) ∧ w'.cell? ⟨w2.heap.size, 4, none⟩ = some (.slice fY B.F.length gY) ∧ w'.cell? ⟨w2.heap.size, 5, none⟩ = some (.int .i64 B.t) ∧ Below w.heap.size w w' ∧ RowsAt w' oX A.R ∧ DepsAt w' fX A.F ∧ RowsAt w' oY B.R ∧ DepsAt w' fY B.F)
    (first | (rename_i hS _ _; exact ⟨cell_keep hS.1 hbn, cell_keep hS.2.1 hbn, cell_keep hS.2.2.1 hbn, cell_keep hS.2.2.2.1 hbn, cell_keep hS.2.2.2.2.1 hbn, cell_keep hS.2.2.2.2.2.1 hbn, cell_keep hS.2.2.2.2.2.2.1 hbn, cell_keep hS.2.2.2.2.2.2.2.1 hbn, cell_keep hS.2.2.2.2.2.2.2.2.1 hbn, cell_keep hS.2.2.2.2.2.2.2.2.2.1 hbn, cell_keep hS.2.2.2.2.2.2.2.2.2.2.1 hbn, cell_keep hS.2.2.2.2.2.2.2.2.2.2.2.1 hbn, cell_keep hS.2.2.2.2.2.2.2.2.2.2.2.2.1 hbn, cell_keep hS.2.2.2.2.2.2.2.2.2.2.2.2.2.1 hbn, cell_keep hS.2.2.2.2.2.2.2.2.2.2.2.2.2.2.1 hbn, cell_keep hS.2.2.2.2.2.2.2.2.2.2.2.2.2.2.2.1 hbn, cell_keep hS.2.2.2.2.2.2.2.2.2.2.2.2.2.2.2.2.1 hbn, cell_keep hS.2.2.2.2.2.2.2.2.2.2.2.2.2.2.2.2.2.1 hbn, cell_keep hS.2.2.2.2.2.2.2.2.2.2.2.2.2.2.2.2.2.2.1 hbn, cell_keep hS.2.2.2.2.2.2.2.2.2.2.2.2.2.2.2.2.2.2.2.1 hbn, cell_keep hS.2.2.2.2.2.2.2.2.2.2.2.2.2.2.2.2.2.2.2.2.1 hbn, cell_keep hS.2.2.2.2.2.2.2.2.2.2.2.2.2.2.2.2.2.2.2.2.2.1 hbn, cell_keep hS.2.2.2.2.2.2.2.2.2.2.2.2.2.2.2.2.2.2.2.2.2.2.1 hbn, cell_keep hS.2.2.2.2.2.2.2.2.2.2.2.2.2.2.2.2.2.2.2.2.2.2.2.1 hbn, bel_to hS.2.2.2.2.2.2.2.2.2.2.2.2.2.2.2.2.2.2.2.2.2.2.2.2.1 hbn, (hS.2.2.2.2.2.2.2.2.2.2.2.2.2.2.2.2.2.2.2.2.2.2.2.2.2.1).keep hbn, (hS.2.2.2.2.2.2.2.2.2.2.2.2.2.2.2.2.2.2.2.2.2.2.2.2.2.2.1).keep hbn, (hS.2.2.2.2.2.2.2.2.2.2.2.2.2.2.2.2.2.2.2.2.2.2.2.2.2.2.2.1).keep hbn, (hS.2.2.2.2.2.2.2.2.2.2.2.2.2.2.2.2.2.2.2.2.2.2.2.2.2.2.2.2).keep hbn⟩) | exact ⟨cell_keep p0 (Below.refl _ _).drew, cell_keep p1 (Below.refl _ _).drew, cell_keep p2 (Below.refl _ _).drew, cell_keep p3 (Below.refl _ _).drew, cell_keep p4 (Below.refl _ _).drew, cell_keep p5 (Below.refl _ _).drew, cell_keep u0 (Below.refl _ _).drew, cell_keep u1 (Below.refl _ _).drew, cell_keep u2 (Below.refl _ _).drew, cell_keep u3 (Below.refl _ _).drew, cell_keep u4 (Below.refl _ _).drew, cell_keep u5 (Below.refl _ _).drew, cell_keep bX0 (Below.refl _ _).drew, cell_keep bX1 (Below.refl _ _).drew, cell_keep bX2 (Below.refl _ _).drew, cell_keep bX3 (Below.refl _ _).drew, cell_keep bX4 (Below.refl _ _).drew, cell_keep bX5 (Below.refl _ _).drew, cell_keep bY0 (Below.refl _ _).drew, cell_keep bY1 (Below.refl _ _).drew, cell_keep bY2 (Below.refl _ _).drew, cell_keep bY3 (Below.refl _ _).drew, cell_keep bY4 (Below.refl _ _).drew, cell_keep bY5 (Below.refl _ _).drew, hb.drew, rX.keep (Below.refl _ _).drew, dX.keep (Below.refl _ _).drew, rY.keep (Below.refl _ _).drew, dY.keep (Below.refl _ _).drew⟩)
    (first
      | (go_at_call 32; rename_i hS _ _; refine (c_toSearch A _ _ _ _ _ (hR0.keep hS.2.2.2.2.2.2.2.2.2.2.2.2.2.2.2.2.2.2.2.2.2.2.2.2.1) (hD0.keep hS.2.2.2.2.2.2.2.2.2.2.2.2.2.2.2.2.2.2.2.2.2.2.2.2.1)).mono ?_; rintro e wz ⟨oz, cz, fz, gz, xsz, rfl, hOz, hFz, apz, hbn⟩; have rz := hOz.read hRoom0 HRr0.out; have dz := hFz.deps rfl hDl0)
      | (go_at_call 34; rename_i hS _ _; refine Calls.mono (c_eqSearch A A _ _ _ _ _ _ _ _ _ (hS.2.2.2.2.2.2.2.2.2.2.2.2.2.2.2.2.2.2.2.2.2.2.2.2.2.1) rz (hS.2.2.2.2.2.2.2.2.2.2.2.2.2.2.2.2.2.2.2.2.2.2.2.2.2.2.1) dz rfl) ?_; rintro e wz ⟨rfl, hbn⟩)
      | fail)
  rename_i hS
  replace p0 := hS.1
  replace p1 := hS.2.1
  replace p2 := hS.2.2.1
  replace p3 := hS.2.2.2.1
  replace p4 := hS.2.2.2.2.1
  replace p5 := hS.2.2.2.2.2.1
  replace u0 := hS.2.2.2.2.2.2.1
  replace u1 := hS.2.2.2.2.2.2.2.1
  replace u2 := hS.2.2.2.2.2.2.2.2.1
  replace u3 := hS.2.2.2.2.2.2.2.2.2.1
  replace u4 := hS.2.2.2.2.2.2.2.2.2.2.1
  replace u5 := hS.2.2.2.2.2.2.2.2.2.2.2.1
  replace bX0 := hS.2.2.2.2.2.2.2.2.2.2.2.2.1
  replace bX1 := hS.2.2.2.2.2.2.2.2.2.2.2.2.2.1
  replace bX2 := hS.2.2.2.2.2.2.2.2.2.2.2.2.2.2.1
  replace bX3 := hS.2.2.2.2.2.2.2.2.2.2.2.2.2.2.2.1
  replace bX4 := hS.2.2.2.2.2.2.2.2.2.2.2.2.2.2.2.2.1
  replace bX5 := hS.2.2.2.2.2.2.2.2.2.2.2.2.2.2.2.2.2.1
  replace bY0 := hS.2.2.2.2.2.2.2.2.2.2.2.2.2.2.2.2.2.2.1
  replace bY1 := hS.2.2.2.2.2.2.2.2.2.2.2.2.2.2.2.2.2.2.2.1
  replace bY2 := hS.2.2.2.2.2.2.2.2.2.2.2.2.2.2.2.2.2.2.2.2.1
  replace bY3 := hS.2.2.2.2.2.2.2.2.2.2.2.2.2.2.2.2.2.2.2.2.2.1
  replace bY4 := hS.2.2.2.2.2.2.2.2.2.2.2.2.2.2.2.2.2.2.2.2.2.2.1
  replace bY5 := hS.2.2.2.2.2.2.2.2.2.2.2.2.2.2.2.2.2.2.2.2.2.2.2.1
  replace hb := hS.2.2.2.2.2.2.2.2.2.2.2.2.2.2.2.2.2.2.2.2.2.2.2.2.1
  replace rX := hS.2.2.2.2.2.2.2.2.2.2.2.2.2.2.2.2.2.2.2.2.2.2.2.2.2.1
  replace dX := hS.2.2.2.2.2.2.2.2.2.2.2.2.2.2.2.2.2.2.2.2.2.2.2.2.2.2.1
  replace rY := hS.2.2.2.2.2.2.2.2.2.2.2.2.2.2.2.2.2.2.2.2.2.2.2.2.2.2.2.1
  replace dY := hS.2.2.2.2.2.2.2.2.2.2.2.2.2.2.2.2.2.2.2.2.2.2.2.2.2.2.2.2
  clear hS
  clear hbn
  clear rz dz hOz hFz apz
  go_wp2_with fail
  go_region_held3 (fun w' => w'.cell? ⟨w.heap.size, 0, none⟩ = some (.int .i64 A.n) ∧ w'.cell? ⟨w.heap.size, 1, none⟩ = some (.slice oT A.R.length cT) ∧ w'.cell? ⟨w.heap.size, 2, none⟩ = some (.int .i64 A.m) ∧ w'.cell? ⟨w.heap.size, 3, none⟩ = some (.int .i64 A.a) ∧ w'.cell? ⟨w.heap.size, 4, none⟩ = some (.slice oD A.F.length cD) ∧ w'.cell? ⟨w.heap.size, 5, none⟩ = some (.int .i64 A.t) ∧ w'.cell? ⟨w.heap.size + 1, 0, none⟩ = some (.int .i64 B.n) ∧ w'.cell? ⟨w.heap.size + 1, 1, none⟩ = some (.slice oT' B.R.length cT') ∧ w'.cell? ⟨w.heap.size + 1, 2, none⟩ = some (.int .i64 B.m) ∧ w'.cell? ⟨w.heap.size + 1, 3, none⟩ = some (.int .i64 B.a) ∧ w'.cell? ⟨w.heap.size + 1, 4, none⟩ = some (.slice oD' B.F.length cD') ∧ w'.cell? ⟨w.heap.size + 1, 5, none⟩ = some (.int .i64 B.t) ∧ w'.cell? ⟨w1.heap.size, 0, none⟩ = some (.int .i64 A.n) ∧ w'.cell? ⟨w1.heap.size, 1, none⟩ = some (.slice oX A.R.length cX) ∧ w'.cell? ⟨w1.heap.size, 2, none⟩ = some (.int .i64 A.m) ∧ w'.cell? ⟨w1.heap.size, 3, none⟩ = some (.int .i64 A.a) ∧ w'.cell? ⟨w1.heap.size, 4, none⟩ = some (.slice fX A.F.length gX) ∧ w'.cell? ⟨w1.heap.size, 5, none⟩ = some (.int .i64 A.t) ∧ w'.cell? ⟨w2.heap.size, 0, none⟩ = some (.int .i64 B.n) ∧ w'.cell? ⟨w2.heap.size, 1, none⟩ = some (.slice oY B.R.length cY) ∧ w'.cell? ⟨w2.heap.size, 2, none⟩ = some (.int .i64 B.m) ∧ w'.cell? ⟨w2.heap.size, 3, none⟩ = some (.int .i64 B.a) ∧ w'.cell? ⟨w2.heap.size, 4, none⟩ = some (.slice fY B.F.length gY) ∧ w'.cell? ⟨w2.heap.size, 5, none⟩ = some (.int .i64 B.t) ∧ Below w.heap.size w w' ∧ RowsAt w' oX A.R ∧ DepsAt w' fX A.F ∧ RowsAt w' oY B.R ∧ DepsAt w' fY B.F)
    (first | (rename_i hS _ _; exact ⟨cell_keep hS.1 hbn, cell_keep hS.2.1 hbn, cell_keep hS.2.2.1 hbn, cell_keep hS.2.2.2.1 hbn, cell_keep hS.2.2.2.2.1 hbn, cell_keep hS.2.2.2.2.2.1 hbn, cell_keep hS.2.2.2.2.2.2.1 hbn, cell_keep hS.2.2.2.2.2.2.2.1 hbn, cell_keep hS.2.2.2.2.2.2.2.2.1 hbn, cell_keep hS.2.2.2.2.2.2.2.2.2.1 hbn, cell_keep hS.2.2.2.2.2.2.2.2.2.2.1 hbn, cell_keep hS.2.2.2.2.2.2.2.2.2.2.2.1 hbn, cell_keep hS.2.2.2.2.2.2.2.2.2.2.2.2.1 hbn, cell_keep hS.2.2.2.2.2.2.2.2.2.2.2.2.2.1 hbn, cell_keep hS.2.2.2.2.2.2.2.2.2.2.2.2.2.2.1 hbn, cell_keep hS.2.2.2.2.2.2.2.2.2.2.2.2.2.2.2.1 hbn, cell_keep hS.2.2.2.2.2.2.2.2.2.2.2.2.2.2.2.2.1 hbn, cell_keep hS.2.2.2.2.2.2.2.2.2.2.2.2.2.2.2.2.2.1 hbn, cell_keep hS.2.2.2.2.2.2.2.2.2.2.2.2.2.2.2.2.2.2.1 hbn, cell_keep hS.2.2.2.2.2.2.2.2.2.2.2.2.2.2.2.2.2.2.2.1 hbn, cell_keep hS.2.2.2.2.2.2.2.2.2.2.2.2.2.2.2.2.2.2.2.2.1 hbn, cell_keep hS.2.2.2.2.2.2.2.2.2.2.2.2.2.2.2.2.2.2.2.2.2.1 hbn, cell_keep hS.2.2.2.2.2.2.2.2.2.2.2.2.2.2.2.2.2.2.2.2.2.2.1 hbn, cell_keep hS.2.2.2.2.2.2.2.2.2.2.2.2.2.2.2.2.2.2.2.2.2.2.2.1 hbn, bel_to hS.2.2.2.2.2.2.2.2.2.2.2.2.2.2.2.2.2.2.2.2.2.2.2.2.1 hbn, (hS.2.2.2.2.2.2.2.2.2.2.2.2.2.2.2.2.2.2.2.2.2.2.2.2.2.1).keep hbn, (hS.2.2.2.2.2.2.2.2.2.2.2.2.2.2.2.2.2.2.2.2.2.2.2.2.2.2.1).keep hbn, (hS.2.2.2.2.2.2.2.2.2.2.2.2.2.2.2.2.2.2.2.2.2.2.2.2.2.2.2.1).keep hbn, (hS.2.2.2.2.2.2.2.2.2.2.2.2.2.2.2.2.2.2.2.2.2.2.2.2.2.2.2.2).keep hbn⟩) | exact ⟨cell_keep p0 (Below.refl _ _).drew, cell_keep p1 (Below.refl _ _).drew, cell_keep p2 (Below.refl _ _).drew, cell_keep p3 (Below.refl _ _).drew, cell_keep p4 (Below.refl _ _).drew, cell_keep p5 (Below.refl _ _).drew, cell_keep u0 (Below.refl _ _).drew, cell_keep u1 (Below.refl _ _).drew, cell_keep u2 (Below.refl _ _).drew, cell_keep u3 (Below.refl _ _).drew, cell_keep u4 (Below.refl _ _).drew, cell_keep u5 (Below.refl _ _).drew, cell_keep bX0 (Below.refl _ _).drew, cell_keep bX1 (Below.refl _ _).drew, cell_keep bX2 (Below.refl _ _).drew, cell_keep bX3 (Below.refl _ _).drew, cell_keep bX4 (Below.refl _ _).drew, cell_keep bX5 (Below.refl _ _).drew, cell_keep bY0 (Below.refl _ _).drew, cell_keep bY1 (Below.refl _ _).drew, cell_keep bY2 (Below.refl _ _).drew, cell_keep bY3 (Below.refl _ _).drew, cell_keep bY4 (Below.refl _ _).drew, cell_keep bY5 (Below.refl _ _).drew, hb.drew, rX.keep (Below.refl _ _).drew, dX.keep (Below.refl _ _).drew, rY.keep (Below.refl _ _).drew, dY.keep (Below.refl _ _).drew⟩)
    (first
      | (go_at_call 32; rename_i hS _ _; refine (c_toSearch B _ _ _ _ _ (hR1.keep hS.2.2.2.2.2.2.2.2.2.2.2.2.2.2.2.2.2.2.2.2.2.2.2.2.1) (hD1.keep hS.2.2.2.2.2.2.2.2.2.2.2.2.2.2.2.2.2.2.2.2.2.2.2.2.1)).mono ?_; rintro e wz ⟨oz, cz, fz, gz, xsz, rfl, hOz, hFz, apz, hbn⟩; have rz := hOz.read hRoom1 HRr1.out; have dz := hFz.deps rfl hDl1)
      | (go_at_call 34; rename_i hS _ _; refine Calls.mono (c_eqSearch B B _ _ _ _ _ _ _ _ _ (hS.2.2.2.2.2.2.2.2.2.2.2.2.2.2.2.2.2.2.2.2.2.2.2.2.2.2.2.1) rz (hS.2.2.2.2.2.2.2.2.2.2.2.2.2.2.2.2.2.2.2.2.2.2.2.2.2.2.2.2) dz rfl) ?_; rintro e wz ⟨rfl, hbn⟩)
      | fail)
  rename_i hS
  replace p0 := hS.1
  replace p1 := hS.2.1
  replace p2 := hS.2.2.1
  replace p3 := hS.2.2.2.1
  replace p4 := hS.2.2.2.2.1
  replace p5 := hS.2.2.2.2.2.1
  replace u0 := hS.2.2.2.2.2.2.1
  replace u1 := hS.2.2.2.2.2.2.2.1
  replace u2 := hS.2.2.2.2.2.2.2.2.1
  replace u3 := hS.2.2.2.2.2.2.2.2.2.1
  replace u4 := hS.2.2.2.2.2.2.2.2.2.2.1
  replace u5 := hS.2.2.2.2.2.2.2.2.2.2.2.1
  replace bX0 := hS.2.2.2.2.2.2.2.2.2.2.2.2.1
  replace bX1 := hS.2.2.2.2.2.2.2.2.2.2.2.2.2.1
  replace bX2 := hS.2.2.2.2.2.2.2.2.2.2.2.2.2.2.1
  replace bX3 := hS.2.2.2.2.2.2.2.2.2.2.2.2.2.2.2.1
  replace bX4 := hS.2.2.2.2.2.2.2.2.2.2.2.2.2.2.2.2.1
  replace bX5 := hS.2.2.2.2.2.2.2.2.2.2.2.2.2.2.2.2.2.1
  replace bY0 := hS.2.2.2.2.2.2.2.2.2.2.2.2.2.2.2.2.2.2.1
  replace bY1 := hS.2.2.2.2.2.2.2.2.2.2.2.2.2.2.2.2.2.2.2.1
  replace bY2 := hS.2.2.2.2.2.2.2.2.2.2.2.2.2.2.2.2.2.2.2.2.1
  replace bY3 := hS.2.2.2.2.2.2.2.2.2.2.2.2.2.2.2.2.2.2.2.2.2.1
  replace bY4 := hS.2.2.2.2.2.2.2.2.2.2.2.2.2.2.2.2.2.2.2.2.2.2.1
  replace bY5 := hS.2.2.2.2.2.2.2.2.2.2.2.2.2.2.2.2.2.2.2.2.2.2.2.1
  replace hb := hS.2.2.2.2.2.2.2.2.2.2.2.2.2.2.2.2.2.2.2.2.2.2.2.2.1
  replace rX := hS.2.2.2.2.2.2.2.2.2.2.2.2.2.2.2.2.2.2.2.2.2.2.2.2.2.1
  replace dX := hS.2.2.2.2.2.2.2.2.2.2.2.2.2.2.2.2.2.2.2.2.2.2.2.2.2.2.1
  replace rY := hS.2.2.2.2.2.2.2.2.2.2.2.2.2.2.2.2.2.2.2.2.2.2.2.2.2.2.2.1
  replace dY := hS.2.2.2.2.2.2.2.2.2.2.2.2.2.2.2.2.2.2.2.2.2.2.2.2.2.2.2.2
  clear hS
  clear hbn
  go_wp2
  go_ret
  exact ⟨rfl, hb⟩
end Go.Proofs.Ytkanbnbofoabeaa
