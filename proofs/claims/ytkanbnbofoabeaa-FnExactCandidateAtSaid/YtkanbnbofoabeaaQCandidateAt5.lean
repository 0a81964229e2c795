/- Contracts and lemmas for FnExactCandidateAt, part 5 of 5. -/
import Derived.Test.YtkanbnbofoabeaaQCandidateAt1
import Derived.Test.YtkanbnbofoabeaaQCandidateAt2
import Derived.Test.YtkanbnbofoabeaaQCandidateAt3
import Derived.Test.YtkanbnbofoabeaaQCandidateAt4
import Derived.Deep.RegionHeld3
namespace Go.Proofs.Ytkanbnbofoabeaa
open Go.RowKit
set_option linter.unusedVariables false
set_option maxRecDepth 100000

set_option maxHeartbeats 3200000 in
theorem w_FnExactCandidateAt (w : World) {vS : Value} (inS : InSr w vS) :
    Calls Try.prog 11 #[vS] w fun e w' => e = .returned (.bool true) ∧ Below w.heap.size w w' := by
  obtain ⟨n, m, a, t, oT, lT, cT, Ln, vD, rfl, hRI, ⟨oD, lD, cD, rfl, hmD, hDin⟩, _, _, _⟩ := inS
  have hb := (Below.refl w.heap.size w).alloc (Nat.le_refl _) (.cells #[.int .i64 n, .slice oT lT cT, .int .i64 m, .int .i64 a, .slice oD lD cD, .int .i64 t] 46)
  have p0 := box_at w #[.int .i64 n, .slice oT lT cT, .int .i64 m, .int .i64 a, .slice oD lD cD, .int .i64 t] 46 0 _ rfl
  have p1 := box_at w #[.int .i64 n, .slice oT lT cT, .int .i64 m, .int .i64 a, .slice oD lD cD, .int .i64 t] 46 1 _ rfl
  have p2 := box_at w #[.int .i64 n, .slice oT lT cT, .int .i64 m, .int .i64 a, .slice oD lD cD, .int .i64 t] 46 2 _ rfl
  have p3 := box_at w #[.int .i64 n, .slice oT lT cT, .int .i64 m, .int .i64 a, .slice oD lD cD, .int .i64 t] 46 3 _ rfl
  have p4 := box_at w #[.int .i64 n, .slice oT lT cT, .int .i64 m, .int .i64 a, .slice oD lD cD, .int .i64 t] 46 4 _ rfl
  have p5 := box_at w #[.int .i64 n, .slice oT lT cT, .int .i64 m, .int .i64 a, .slice oD lD cD, .int .i64 t] 46 5 _ rfl
  go_enter Try.func11, Try.ntmps11
  go_wp2_with fail
  refine (c_szSearch n m a t _ _ _ _ _ _ _ 1048576 (by omega) (by omega) _ (hRI.keep hb) hmD).mono ?_
  rintro e w0 ⟨⟨x, rfl, hx⟩, hbn⟩
  replace p0 := cell_keep p0 hbn
  replace p1 := cell_keep p1 hbn
  replace p2 := cell_keep p2 hbn
  replace p3 := cell_keep p3 hbn
  replace p4 := cell_keep p4 hbn
  replace p5 := cell_keep p5 hbn
  replace hb := bel_to hb hbn
  clear hbn
  rcases hx with rfl | ⟨hx0, hx1, hx2, hx3⟩
  · go_wp2
    go_ret
    exact ⟨rfl, hb⟩
  obtain ⟨R0, rfl, hR0, hRl0⟩ := hRI.reads (by unfold Room; omega) (fun r hr => by have := sumN_one (Ln := Ln) hr; unfold Room; omega)
  obtain ⟨D0, rfl, hD0⟩ := hDin (room_of (by omega))
  have hsum0 : (sumL R0 R0.length : Int) + R0.length ≤ 1048576 := by rw [sumL_sumN hRl0 R0.length (Nat.le_refl _)]; omega
  have hDs0 : (D0.length : Int) ≤ 1048576 := by omega
  have hRoom0 : R0.length ≤ Room := hR0.len
  have hDl0 : D0.length ≤ Room := hD0.len
  have HRr0 : Hid (∀ j, j < R0.length → (row R0 j).length ≤ Room) := fun j hj => by rw [hRl0 j hj]; have := sumN_one (Ln := Ln) hj; unfold Room; omega
  clear hx2 hx3 hRl0 hRI hmD hDin
  obtain ⟨A, rfl, rfl, rfl, rfl, rfl, rfl⟩ : ∃ A : Sr, n = A.n ∧ R0 = A.R ∧ m = A.m ∧ a = A.a ∧ D0 = A.F ∧ t = A.t := ⟨⟨n, R0, m, a, D0, t⟩, rfl, rfl, rfl, rfl, rfl, rfl⟩
  obtain ⟨⟨l9, r9, b9⟩, h9⟩ : ∃ z, z = candAtF A := ⟨_, rfl⟩
  have h9b : depEqB l9 r9 l9 r9 = true := by simp [depEqB]
  have h9c : (b9 != b9) = false := by simp
  go_wp2_with fail
  refine (c_toSearch A _ _ _ _ _ (hR0.keep hb) (hD0.keep hb)).mono ?_
  rintro e w1 ⟨oS, cS, fS, gS, xsS, rfl, hOS, hFS, apS, hbn⟩
  have rS := hOS.read hRoom0 HRr0.out
  have dS := hFS.deps rfl hDl0
  replace p0 := cell_keep p0 hbn
  replace p1 := cell_keep p1 hbn
  replace p2 := cell_keep p2 hbn
  replace p3 := cell_keep p3 hbn
  replace p4 := cell_keep p4 hbn
  replace p5 := cell_keep p5 hbn
  replace hb := bel_to hb hbn
  clear hbn hOS hFS apS
  go_wp2_with fail
  refine Calls.mono (c_specCandidateAt A _ _ _ _ _ rS dS _ _ _ h9.symm) ?_
  rintro e w2 ⟨rfl, hbn⟩
  replace p0 := cell_keep p0 hbn
  replace p1 := cell_keep p1 hbn
  replace p2 := cell_keep p2 hbn
  replace p3 := cell_keep p3 hbn
  replace p4 := cell_keep p4 hbn
  replace p5 := cell_keep p5 hbn
  replace rS := rS.keep hbn
  replace dS := dS.keep hbn
  replace hb := bel_to hb hbn
  clear hbn
  have sd0 := box_at w2 #[.int .i64 l9, .int .i64 r9] 33 0 _ rfl
  have sd1 := box_at w2 #[.int .i64 l9, .int .i64 r9] 33 1 _ rfl
  have hbn := (Below.refl w2.heap.size w2).alloc (Nat.le_refl _) (.cells #[.int .i64 l9, .int .i64 r9] 33)
  replace p0 := cell_keep p0 hbn
  replace p1 := cell_keep p1 hbn
  replace p2 := cell_keep p2 hbn
  replace p3 := cell_keep p3 hbn
  replace p4 := cell_keep p4 hbn
  replace p5 := cell_keep p5 hbn
  replace rS := rS.keep hbn
  replace dS := dS.keep hbn
  replace hb := bel_to hb hbn
  clear hbn
  clear rS dS
  go_wp2_with fail
  refine (c_toSearch A _ _ _ _ _ (hR0.keep hb) (hD0.keep hb)).mono ?_
  rintro e w3 ⟨oX, cX, fX, gX, xsX, rfl, hOX, hFX, apX, hbn⟩
  have rX := hOX.readC hRoom0 HRr0.out
  have dX := hFX.deps rfl hDl0
  replace p0 := cell_keep p0 hbn
  replace p1 := cell_keep p1 hbn
  replace p2 := cell_keep p2 hbn
  replace p3 := cell_keep p3 hbn
  replace p4 := cell_keep p4 hbn
  replace p5 := cell_keep p5 hbn
  replace sd0 := cell_keep sd0 hbn
  replace sd1 := cell_keep sd1 hbn
  replace hb := bel_to hb hbn
  clear hbn hOX hFX apX
  have bX0 := box_at w3 #[.int .i64 A.n, .slice oX A.R.length cX, .int .i64 A.m, .int .i64 A.a, .slice fX A.F.length gX, .int .i64 A.t] 50 0 _ rfl
  have bX1 := box_at w3 #[.int .i64 A.n, .slice oX A.R.length cX, .int .i64 A.m, .int .i64 A.a, .slice fX A.F.length gX, .int .i64 A.t] 50 1 _ rfl
  have bX2 := box_at w3 #[.int .i64 A.n, .slice oX A.R.length cX, .int .i64 A.m, .int .i64 A.a, .slice fX A.F.length gX, .int .i64 A.t] 50 2 _ rfl
  have bX3 := box_at w3 #[.int .i64 A.n, .slice oX A.R.length cX, .int .i64 A.m, .int .i64 A.a, .slice fX A.F.length gX, .int .i64 A.t] 50 3 _ rfl
  have bX4 := box_at w3 #[.int .i64 A.n, .slice oX A.R.length cX, .int .i64 A.m, .int .i64 A.a, .slice fX A.F.length gX, .int .i64 A.t] 50 4 _ rfl
  have bX5 := box_at w3 #[.int .i64 A.n, .slice oX A.R.length cX, .int .i64 A.m, .int .i64 A.a, .slice fX A.F.length gX, .int .i64 A.t] 50 5 _ rfl
  have hbn := (Below.refl w3.heap.size w3).alloc (Nat.le_refl _) (.cells #[.int .i64 A.n, .slice oX A.R.length cX, .int .i64 A.m, .int .i64 A.a, .slice fX A.F.length gX, .int .i64 A.t] 50)
  replace p0 := cell_keep p0 hbn
  replace p1 := cell_keep p1 hbn
  replace p2 := cell_keep p2 hbn
  replace p3 := cell_keep p3 hbn
  replace p4 := cell_keep p4 hbn
  replace p5 := cell_keep p5 hbn
  replace sd0 := cell_keep sd0 hbn
  replace sd1 := cell_keep sd1 hbn
  replace rX := rX.keep hbn
  replace dX := dX.keep hbn
  replace hb := bel_to hb hbn
  clear hbn
  go_wp2_with fail
  refine Calls.mono (c_CandidateAt A _ _ _ _ _ rX dX _ _ _ h9.symm) ?_
  rintro e w4 ⟨rfl, hbn⟩
  replace p0 := cell_keep p0 hbn
  replace p1 := cell_keep p1 hbn
  replace p2 := cell_keep p2 hbn
  replace p3 := cell_keep p3 hbn
  replace p4 := cell_keep p4 hbn
  replace p5 := cell_keep p5 hbn
  replace sd0 := cell_keep sd0 hbn
  replace sd1 := cell_keep sd1 hbn
  replace bX0 := cell_keep bX0 hbn
  replace bX1 := cell_keep bX1 hbn
  replace bX2 := cell_keep bX2 hbn
  replace bX3 := cell_keep bX3 hbn
  replace bX4 := cell_keep bX4 hbn
  replace bX5 := cell_keep bX5 hbn
  replace rX := rX.keep hbn
  replace dX := dX.keep hbn
  replace hb := bel_to hb hbn
  clear hbn
  have xd0 := box_at w4 #[.int .i64 l9, .int .i64 r9] 33 0 _ rfl
  have xd1 := box_at w4 #[.int .i64 l9, .int .i64 r9] 33 1 _ rfl
  have hbn := (Below.refl w4.heap.size w4).alloc (Nat.le_refl _) (.cells #[.int .i64 l9, .int .i64 r9] 33)
  replace p0 := cell_keep p0 hbn
  replace p1 := cell_keep p1 hbn
  replace p2 := cell_keep p2 hbn
  replace p3 := cell_keep p3 hbn
  replace p4 := cell_keep p4 hbn
  replace p5 := cell_keep p5 hbn
  replace sd0 := cell_keep sd0 hbn
  replace sd1 := cell_keep sd1 hbn
  replace bX0 := cell_keep bX0 hbn
  replace bX1 := cell_keep bX1 hbn
  replace bX2 := cell_keep bX2 hbn
  replace bX3 := cell_keep bX3 hbn
  replace bX4 := cell_keep bX4 hbn
  replace bX5 := cell_keep bX5 hbn
  replace rX := rX.keep hbn
  replace dX := dX.keep hbn
  replace hb := bel_to hb hbn
  clear hbn
  go_wp2_with fail
  refine Calls.mono (Ans.eqb (c_eqDep l9 r9 l9 r9 _) h9b) ?_
  rintro e w5 ⟨rfl, hbn⟩
  replace p0 := cell_keep p0 hbn
  replace p1 := cell_keep p1 hbn
  replace p2 := cell_keep p2 hbn
  replace p3 := cell_keep p3 hbn
  replace p4 := cell_keep p4 hbn
  replace p5 := cell_keep p5 hbn
  replace sd0 := cell_keep sd0 hbn
  replace sd1 := cell_keep sd1 hbn
  replace bX0 := cell_keep bX0 hbn
  replace bX1 := cell_keep bX1 hbn
  replace bX2 := cell_keep bX2 hbn
  replace bX3 := cell_keep bX3 hbn
  replace bX4 := cell_keep bX4 hbn
  replace bX5 := cell_keep bX5 hbn
  replace xd0 := cell_keep xd0 hbn
  replace xd1 := cell_keep xd1 hbn
  replace rX := rX.keep hbn
  replace dX := dX.keep hbn
  replace hb := bel_to hb hbn
  clear hbn
  go_wp2_with fail
  go_region_held3 (fun w' => w'.cell? ⟨w.heap.size, 0, none⟩ = some (.int .i64 A.n) ∧ w'.cell? ⟨w.heap.size, 1, none⟩ = some (.slice oT A.R.length cT) ∧ w'.cell? ⟨w.heap.size, 2, none⟩ = some (.int .i64 A.m) ∧ w'.cell? ⟨w.heap.size, 3, none⟩ = some (.int .i64 A.a) ∧ w'.cell? ⟨w.heap.size, 4, none⟩ = some (.slice oD A.F.length cD) ∧ w'.cell? ⟨w.heap.size, 5, none⟩ = some (.int .i64 A.t) ∧ w'.cell? ⟨w2.heap.size, 0, none⟩ = some (.int .i64 l9) ∧ w'.cell? ⟨w2.heap.size, 1, none⟩ = some (.int .i64 r9) ∧ w'.cell? ⟨w3.heap.size, 0, none⟩ = some (.int .i64 A.n) ∧ w'.cell? ⟨w3.heap.size, 1, none⟩ = some (.slice oX A.R.length cX) ∧ w'.cell? ⟨w3.heap.size, 2, none⟩ = some (.int .i64 A.m) ∧ w'.cell? ⟨w3.heap.size, 3, none⟩ = some (.int .i64 A.a) ∧ w'.cell? ⟨w3.heap.size, 4, none⟩ = some (.slice fX A.F.length gX) ∧ w'.cell? ⟨w3.heap.size, 5, none⟩ = some (.int .i64 A.t) ∧ w'.cell? ⟨w4.heap.size, 0, none⟩ = some (.int .i64 l9) ∧ w'.cell? ⟨w4.heap.size, 1, none⟩ = some (.int .i64 r9) ∧ Below w.heap.size w w' ∧ RowsC w' oX A.R ∧ DepsAt w' fX A.F)
    (first | (rename_i hS _ _; exact ⟨cell_keep hS.1 hbn, cell_keep hS.2.1 hbn, cell_keep hS.2.2.1 hbn, cell_keep hS.2.2.2.1 hbn, cell_keep hS.2.2.2.2.1 hbn, cell_keep hS.2.2.2.2.2.1 hbn, cell_keep hS.2.2.2.2.2.2.1 hbn, cell_keep hS.2.2.2.2.2.2.2.1 hbn, cell_keep hS.2.2.2.2.2.2.2.2.1 hbn, cell_keep hS.2.2.2.2.2.2.2.2.2.1 hbn, cell_keep hS.2.2.2.2.2.2.2.2.2.2.1 hbn, cell_keep hS.2.2.2.2.2.2.2.2.2.2.2.1 hbn, cell_keep hS.2.2.2.2.2.2.2.2.2.2.2.2.1 hbn, cell_keep hS.2.2.2.2.2.2.2.2.2.2.2.2.2.1 hbn, cell_keep hS.2.2.2.2.2.2.2.2.2.2.2.2.2.2.1 hbn, cell_keep hS.2.2.2.2.2.2.2.2.2.2.2.2.2.2.2.1 hbn, bel_to hS.2.2.2.2.2.2.2.2.2.2.2.2.2.2.2.2.1 hbn, (hS.2.2.2.2.2.2.2.2.2.2.2.2.2.2.2.2.2.1).keep hbn, (hS.2.2.2.2.2.2.2.2.2.2.2.2.2.2.2.2.2.2).keep hbn⟩) | exact ⟨cell_keep p0 (Below.refl _ _).drew, cell_keep p1 (Below.refl _ _).drew, cell_keep p2 (Below.refl _ _).drew, cell_keep p3 (Below.refl _ _).drew, cell_keep p4 (Below.refl _ _).drew, cell_keep p5 (Below.refl _ _).drew, cell_keep sd0 (Below.refl _ _).drew, cell_keep sd1 (Below.refl _ _).drew, cell_keep bX0 (Below.refl _ _).drew, cell_keep bX1 (Below.refl _ _).drew, cell_keep bX2 (Below.refl _ _).drew, cell_keep bX3 (Below.refl _ _).drew, cell_keep bX4 (Below.refl _ _).drew, cell_keep bX5 (Below.refl _ _).drew, cell_keep xd0 (Below.refl _ _).drew, cell_keep xd1 (Below.refl _ _).drew, hb.drew, rX.keep (Below.refl _ _).drew, dX.keep (Below.refl _ _).drew⟩)
    (first
      | (go_at_call 32; rename_i hS _ _; refine (c_toSearch A _ _ _ _ _ (hR0.keep hS.2.2.2.2.2.2.2.2.2.2.2.2.2.2.2.2.1) (hD0.keep hS.2.2.2.2.2.2.2.2.2.2.2.2.2.2.2.2.1)).mono ?_; rintro e wz ⟨oz, cz, fz, gz, xsz, rfl, hOz, hFz, apz, hbn⟩; have rz := hOz.read hRoom0 HRr0.out; have dz := hFz.deps rfl hDl0)
      | (go_at_call 34; rename_i hS _ _; refine Calls.mono (c_eqSearch A A _ _ _ _ _ _ _ _ _ (hS.2.2.2.2.2.2.2.2.2.2.2.2.2.2.2.2.2.1).1 rz (hS.2.2.2.2.2.2.2.2.2.2.2.2.2.2.2.2.2.2) dz rfl) ?_; rintro e wz ⟨rfl, hbn⟩)
      | fail)
  rename_i hS
  replace p0 := hS.1
  replace p1 := hS.2.1
  replace p2 := hS.2.2.1
  replace p3 := hS.2.2.2.1
  replace p4 := hS.2.2.2.2.1
  replace p5 := hS.2.2.2.2.2.1
  replace sd0 := hS.2.2.2.2.2.2.1
  replace sd1 := hS.2.2.2.2.2.2.2.1
  replace bX0 := hS.2.2.2.2.2.2.2.2.1
  replace bX1 := hS.2.2.2.2.2.2.2.2.2.1
  replace bX2 := hS.2.2.2.2.2.2.2.2.2.2.1
  replace bX3 := hS.2.2.2.2.2.2.2.2.2.2.2.1
  replace bX4 := hS.2.2.2.2.2.2.2.2.2.2.2.2.1
  replace bX5 := hS.2.2.2.2.2.2.2.2.2.2.2.2.2.1
  replace xd0 := hS.2.2.2.2.2.2.2.2.2.2.2.2.2.2.1
  replace xd1 := hS.2.2.2.2.2.2.2.2.2.2.2.2.2.2.2.1
  replace hb := hS.2.2.2.2.2.2.2.2.2.2.2.2.2.2.2.2.1
  replace rX := hS.2.2.2.2.2.2.2.2.2.2.2.2.2.2.2.2.2.1
  replace dX := hS.2.2.2.2.2.2.2.2.2.2.2.2.2.2.2.2.2.2
  clear hS
  clear hbn
  go_wp2
  go_ret
  exact ⟨rfl, hb⟩
end Go.Proofs.Ytkanbnbofoabeaa
