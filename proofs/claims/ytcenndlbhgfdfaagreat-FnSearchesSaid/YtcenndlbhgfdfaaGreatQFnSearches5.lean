/- Contracts and lemmas for FnSearches, part 5 of 8. -/
import Derived.Test.YtcenndlbhgfdfaaGreatQFnSearches1
import Derived.Test.YtcenndlbhgfdfaaGreatQFnSearches2
import Derived.Test.YtcenndlbhgfdfaaGreatQFnSearches3
import Derived.Test.YtcenndlbhgfdfaaGreatQFnSearches4
import Derived.ProofKit
import Derived.OpenShut
import Derived.Lib.SmallJoins
import Derived.BigRegion
import Derived.RegionTactic
import Derived.Outline
import Derived.Deep.RegionHeld3
import Derived.Deep.CutRange
import Derived.Deep.RegionLaw
namespace Go.Proofs.YtcenndlbhgfdfaaGreat
open Go.RowKit
set_option linter.unusedVariables false
set_option maxRecDepth 100000

theorem run_sizes {A : Sr} {b : Int} (h1 : A.R.length ≤ Room) (h4 : A.F.length ≤ Room) (h2 : (sumL A.R A.R.length : Int) ≤ 1048576) (h3 : ∀ j, j < A.R.length → (row A.R j).length ≤ Room) : (runSr A b).R.length ≤ Room ∧ (runSr A b).F.length ≤ Room ∧ (sumL (runSr A b).R (runSr A b).R.length : Int) ≤ 1048576 ∧ (∀ j, j < (runSr A b).R.length → (row (runSr A b).R j).length ≤ Room) ∧ True := by
  unfold runSr
  cases hs : isSrF A
  · exact ⟨h1, h4, h2, h3, trivial⟩
  · obtain ⟨N, K, hn, ha, hN1, hN5, hK, _⟩ := isSr_of hs
    refine ⟨h1, ?_, h2, h3, trivial⟩
    have e : stopF A b ≤ N * 2 ^ N := by
      unfold stopF; rw [hn, ha]; simp only [Int.toNat_natCast]; exact (stopAt_le _ _ hK).1
    have := (rep_ok (R := A.R) (m := A.m) hN5 hN1 _ e).2.1
    have := count_le hN5
    simp only [if_true, hn, Int.toNat_natCast]
    unfold Room; omega
set_option maxHeartbeats 12800000 in
theorem c_specRunSearch (A : Sr) (oa fa) (ca fca : Nat) (b : Int) (w : World) (hR : RowsC w oa A.R) (hRs : A.R.length ≤ 1048576 ∧ ∀ j, j < A.R.length → (row A.R j).length ≤ 1048576) (hD : DepsAt w fa A.F) (hDs : A.F.length ≤ 1048576) (hnil : fa = none → fca = 0) :
    SrRes 9 #[.agg #[.int .i64 A.n, .slice oa A.R.length ca, .int .i64 A.m, .int .i64 A.a, .slice fa A.F.length fca, .int .i64 A.t], .int .i64 b] w (runSr A b) (fun v => v) := by
  unfold SrRes
  have H := fun w' h1 h2 => c_l8Copy A oa fa ca fca w' h1 hRs h2 hDs hnil
  have HI := fun w' h1 h2 => c_specIsSearch A oa fa ca fca w' h1 h2
  unfold SrRes at H
  obtain ⟨n, R, m, a, F, t⟩ := A
  dsimp only at *
  have hb := bel2 w (.cells #[.int .i64 n, .slice oa R.length ca, .int .i64 m, .int .i64 a, .slice fa F.length fca, .int .i64 t] 29) (.cells srZ 29)
  have kA := (Blk.new w #[.int .i64 n, .slice oa R.length ca, .int .i64 m, .int .i64 a, .slice fa F.length fca, .int .i64 t] 29).alloc (.cells srZ 29)
  have kZ := Blk.new (w.alloc (.cells #[.int .i64 n, .slice oa R.length ca, .int .i64 m, .int .i64 a, .slice fa F.length fca, .int .i64 t] 29)) srZ 29
  simp only [World.size_alloc] at kZ
  unfold srZ at hb kA kZ
  have s0 := kA.cell 0 (.int .i64 n) rfl
  have s1 := kA.cell 1 (.slice oa R.length ca) rfl
  have s2 := kA.cell 2 (.int .i64 m) rfl
  have s3 := kA.cell 3 (.int .i64 a) rfl
  have s4 := kA.cell 4 (.slice fa F.length fca) rfl
  have s5 := kA.cell 5 (.int .i64 t) rfl
  go_enter Tryz.func9, Tryz.ntmps9
  go_wp2_with fail
  refine (H _ (hR.keep hb) (hD.keep hb)).mono ?_
  clear H
  rintro e w1 ⟨o, c, fo, fc, xs, rfl, hO, hF, ap, hbn⟩
  simp only [World.size_alloc] at hO hF
  replace kA := kA.keep hbn
  replace kZ := kZ.keep hbn
  replace hb := bel_to hb hbn
  have hs1 : w.heap.size + 1 < w1.heap.size := kZ.lt
  clear hbn s0 s1 s2 s3 s4 s5
  have kT := Blk.new w1 #[.int .i64 n, .slice o R.length c, .int .i64 m, .int .i64 a, .slice fo F.length fc, .int .i64 t] 29
  have hba := (Below.refl w1.heap.size w1).alloc (Nat.le_refl _) (.cells #[.int .i64 n, .slice o R.length c, .int .i64 m, .int .i64 a, .slice fo F.length fc, .int .i64 t] 29)
  have nO : Avoid w1.heap.size (.slice o R.length c) xs := fun y hy e => by
    have := hO.old (Nat.le_refl _) y hy _ e
    omega
  have nF : (Value.slice fo F.length fc).ownBlock ≠ some w1.heap.size := hF.not_new (Nat.le_refl _)
  replace kA := kA.keep hba
  replace kZ := kZ.keep hba
  replace hO := hO.keep hba
  replace hF := hF.keep hba
  replace hb := bel_to hb hba
  clear hba
  have s0 := kA.cell 0 (.int .i64 n) rfl
  have s1 := kA.cell 1 (.slice oa R.length ca) rfl
  have s2 := kA.cell 2 (.int .i64 m) rfl
  have s3 := kA.cell 3 (.int .i64 a) rfl
  have s4 := kA.cell 4 (.slice fa F.length fca) rfl
  have s5 := kA.cell 5 (.int .i64 t) rfl
  go_upto_region 2 with fail
  generalize w1.alloc (.cells #[.int .i64 n, .slice o R.length c, .int .i64 m, .int .i64 a, .slice fo F.length fc, .int .i64 t] 29) = w2 at *
  generalize w1.heap.size = k5 at *
  go_wp2_with fail
  cases hs : isSrF ⟨n, R, m, a, F, t⟩
  · have HV : Hid (runSr ⟨n, R, m, a, F, t⟩ b = ⟨n, R, m, a, F, t⟩) := by show _ = _; unfold runSr; rw [hs]; rfl
    refine Calls.mono (Ans.eqb (HI _ (hR.keep hb).1 (hD.keep hb)) hs) ?_
    rintro e w3 ⟨rfl, hbn⟩
    replace kA := kA.keep hbn
    replace kZ := kZ.keep hbn
    replace kT := kT.keep hbn
    replace hO := hO.keep hbn
    replace hF := hF.keep hbn
    replace hb := bel_to hb hbn
    clear hbn s0 s1 s2 s3 s4 s5 hs HI
    have r0 := kT.cell 0 (.int .i64 n) rfl
    have r1 := kT.cell 1 (.slice o R.length c) rfl
    have r2 := kT.cell 2 (.int .i64 m) rfl
    have r3 := kT.cell 3 (.int .i64 a) rfl
    have r4 := kT.cell 4 (.slice fo F.length fc) rfl
    have r5 := kT.cell 5 (.int .i64 t) rfl
    have z0 := kZ.cell 0 (.int .i64 0) rfl
    have z1 := kZ.cell 1 (.slice none 0 0) rfl
    have z2 := kZ.cell 2 (.int .i64 0) rfl
    have z3 := kZ.cell 3 (.int .i64 0) rfl
    have z4 := kZ.cell 4 (.slice none 0 0) rfl
    have z5 := kZ.cell 5 (.int .i64 0) rfl
    have g0 := kZ.free 0
    have g1 := kZ.free 1
    have g2 := kZ.free 2
    have g3 := kZ.free 3
    have g4 := kZ.free 4
    have g5 := kZ.free 5
    have k6 := kZ.set6 (.int .i64 n) (.slice o R.length c) (.int .i64 m) (.int .i64 a) (.slice fo F.length fc) (.int .i64 t)
    unfold set6 at k6
    have q0 := k6.cell 0 _ rfl
    have q1 := k6.cell 1 _ rfl
    have q2 := k6.cell 2 _ rfl
    have q3 := k6.cell 3 _ rfl
    have q4 := k6.cell 4 _ rfl
    have q5 := k6.cell 5 _ rfl
    go_wp2
    refine bodyPost_ret (v := .agg #[.int .i64 n, .slice o R.length c, .int .i64 m, .int .i64 a, .slice fo F.length fc, .int .i64 t]) (by simp only [results, Tryz.results9]; simp [go_sem, q0, q1, q2, q3, q4, q5]) rfl ?_
    rw [HV.out]
    exact ⟨o, c, fo, fc, xs, rfl, (hO.far6 (show w.heap.size + 1 < w.heap.size + 1 + 1 by omega) _ _ _ _ _ _).based (by omega), (OwnD.set6 hF (fun e => by have := (World.ownsRow.lt hF _ e).1; omega) _ _ _ _ _ _).based (by omega), ap, bel_set6 hb (Nat.le_succ _) _ _ _ _ _ _⟩
  · obtain ⟨N, K, hnN, haK, hN1, hN5, hKM, ht, hm, hrep⟩ := isSr_of hs
    dsimp only at hnN haK ht hm hrep
    subst hnN haK
    have HV : Hid (runSr ⟨(N : Int), R, m, (K : Int), F, t⟩ b = ⟨N, R, m, (stopAt R m N (N * 2 ^ N) b t (N * 2 ^ N - K) K : Nat), (repF R m N (stopAt R m N (N * 2 ^ N) b t (N * 2 ^ N - K) K)).1, (repF R m N (stopAt R m N (N * 2 ^ N) b t (N * 2 ^ N - K) K)).2⟩) := by
      show _ = _; unfold runSr stopF; rw [hs]; simp only [Int.toNat_natCast]; rfl
    have hc160 := count_le hN5
    obtain ⟨_, _, _, hlen⟩ := isTab_of ht
    have HLR : Hid (∀ j, j < R.length → (row R j).length ≤ Room) := fun j hj => by have := hlen j hj; unfold Room; omega
    have hRl := hR.1.len
    clear hlen
    have HCO : Hid (∀ w', Ans Tryz.prog 48 #[.int .i64 N] w' (.int .i64 ((N * 2 ^ N : Nat) : Int))) := fun w' => c_l8Count N hN5 w'
    have HK : Hid (∀ k, k ≤ N * 2 ^ N → (∀ o ∈ (repF R m N k).1, St o.1 ∧ Co o.2) ∧ (repF R m N k).1.length ≤ k ∧ 0 ≤ (repF R m N k).2 ∧ (repF R m N k).2 ≤ k) := fun k hk => rep_ok hN5 hN1 k hk
    have HS : Hid (∀ k, repF R m N (k + 1) = stepF R m N k (repF R m N k)) := fun k => rfl
    have HSF : Hid (∀ (k : Nat) (fo : Option Addr) (fc : Nat) (g : Int) (G : List (Int × Int)) (g5 B : Nat) (w' : World), Blk w' g5 #[.int .i64 N, .slice o R.length c, .int .i64 m, .int .i64 k, .slice fo G.length fc, .int .i64 g] 29 → OwnRows w' B (.slice o R.length c) xs R → OwnD w' B (.slice fo G.length fc) G → ApartR (.slice o R.length c) xs (.slice fo G.length fc) → Avoid g5 (.slice o R.length c) xs → (Value.slice fo G.length fc).ownBlock ≠ some g5 → B ≤ g5 → k < N * 2 ^ N → G.length ≤ 160 → (∀ d ∈ G, St d.1 ∧ Co d.2) → 0 ≤ g → g ≤ 160 → Calls Tryz.prog 49 #[.pointer (some ⟨g5, 0, none⟩)] w' fun e w'' => ∃ fo' fc', e = .returned (.tuple #[]) ∧ Blk w'' g5 #[.int .i64 N, .slice o R.length c, .int .i64 m, .int .i64 ((k : Int) + 1), .slice fo' (stepF R m N k (G, g)).1.length fc', .int .i64 (stepF R m N k (G, g)).2] 29 ∧ OwnRows w'' B (.slice o R.length c) xs R ∧ OwnD w'' B (.slice fo' (stepF R m N k (G, g)).1.length fc') (stepF R m N k (G, g)).1 ∧ ApartR (.slice o R.length c) xs (.slice fo' (stepF R m N k (G, g)).1.length fc') ∧ (Value.slice fo' (stepF R m N k (G, g)).1.length fc').ownBlock ≠ some g5 ∧ Below B w' w'') :=
      fun k fo fc g G g5 B w' h1 h2 h3 h4 h5 h6 h7 h8 h9 h10 h11 h12 => c_l8Step N k o fo c fc R m g G g5 B xs w' h1 h2 h3 h4 h5 h6 h7 ht h8 h9 h10 h11 h12
    have ht0 : 0 ≤ t ∧ t ≤ 160 := by have := HK.out K hKM; rw [hrep] at this; dsimp only at this; omega
    have HSE : Hid (∀ k, k < N * 2 ^ N → stopAt R m N (N * 2 ^ N) b t (N * 2 ^ N - k) k = if decide (k < N * 2 ^ N) && decide ((repF R m N k).2 - t < b) then stopAt R m N (N * 2 ^ N) b t (N * 2 ^ N - (k + 1)) (k + 1) else k) := fun k hk => stopAt_step hk
    have HSX : Hid (stopAt R m N (N * 2 ^ N) b t (N * 2 ^ N - N * 2 ^ N) (N * 2 ^ N) = N * 2 ^ N) := stopAt_end
    generalize hM : N * 2 ^ N = M at *
    refine Calls.mono (Ans.eqb (HI _ (hR.keep hb).1 (hD.keep hb)) hs) ?_
    rintro e w3 ⟨rfl, hbn⟩
    replace kA := kA.keep hbn
    replace kZ := kZ.keep hbn
    replace kT := kT.keep hbn
    replace hO := hO.keep hbn
    replace hF := hF.keep hbn
    replace hb := bel_to hb hbn
    clear hbn s0 s1 s2 s3 s4 s5 hs HI ht hm
    obtain ⟨S, hS⟩ : ∃ S, stopAt R m N M b t (M - K) K = S := ⟨_, rfl⟩
    have HSS : Hid (stopAt R m N M b t (M - K) K = S) := hS
    go_wp2
    go_loopw [18] (fun _ wr => ∃ (k : Nat) (G : List (Int × Int)) (g : Int) (fo : Option Addr) (fc : Nat), k ≤ M ∧ stopAt R m N M b t (M - k) k = S ∧ repF R m N k = (G, g) ∧ Blk wr k5 #[.int .i64 N, .slice o R.length c, .int .i64 m, .int .i64 k, .slice fo G.length fc, .int .i64 g] 29 ∧ OwnRows wr (w.heap.size + 1 + 1) (.slice o R.length c) xs R ∧ OwnD wr (w.heap.size + 1 + 1) (.slice fo G.length fc) G ∧ ApartR (.slice o R.length c) xs (.slice fo G.length fc) ∧ (Value.slice fo G.length fc).ownBlock ≠ some k5 ∧ Blk wr w.heap.size #[.int .i64 N, .slice oa R.length ca, .int .i64 m, .int .i64 K, .slice fa F.length fca, .int .i64 t] 29 ∧ Blk wr (w.heap.size + 1) #[.int .i64 0, .slice none 0 0, .int .i64 0, .int .i64 0, .slice none 0 0, .int .i64 0] 29 ∧ Below w.heap.size w wr) (fun _ wr => M - atOf wr k5)
    case atStart => exact ⟨K, F, t, fo, fc, hKM, hS, hrep, kT, hO, hF, ap, nF, kA, kZ, hb⟩
    case round =>
      clear kT hO hF ap nF kA kZ hb hS hrep hKM
      obtain ⟨k, G, g, fo, fc, hkM, hst, hGg, kT, hO, hF, ap, nF, kA, kZ, hb⟩ := hrel
      have HST : Hid (stopAt R m N M b t (M - k) k = S) := hst
      have HG : Hid (repF R m N k = (G, g)) := hGg
      obtain ⟨i1, i2, i3, i4⟩ := HK.out k hkM
      rw [hGg] at i1 i2 i3 i4
      dsimp only at i1 i2 i3 i4
      have HI1 : Hid (∀ d ∈ G, St d.1 ∧ Co d.2) := i1
      clear i1
      clear hGg hst
      have n0 := kT.cell 0 (.int .i64 N) rfl
      have n1 := kT.cell 1 (.slice o R.length c) rfl
      have n2 := kT.cell 2 (.int .i64 m) rfl
      have n3 := kT.cell 3 (.int .i64 k) rfl
      have n4 := kT.cell 4 (.slice fo G.length fc) rfl
      have n5 := kT.cell 5 (.int .i64 g) rfl
      have s5 := kA.cell 5 (.int .i64 t) rfl
      have hkz := kZ.lt
      by_cases hlt : k < M
      · have hd1 : decide ((k : Int) < (M : Int)) = true := decide_eq_true (by omega)
        by_cases hgb : g - t < b
        · have hd2 : decide (g - t < b) = true := decide_eq_true hgb
          have HST2 : Hid (stopAt R m N M b t (M - (k + 1)) (k + 1) = S) := by
            show _ = S
            have := HSE.out k hlt
            rw [HG.out, decide_eq_true hlt, hd2] at this
            rw [← HST.out, this]; rfl
          have HSK : Hid (repF R m N (k + 1) = stepF R m N k (G, g)) := by show repF R m N (k + 1) = _; rw [HS.out, HG.out]
          have HM1 : Hid (atOf wr k5 = k) := atOf_eq n3
          go_wp2_with fail
          (refine wp_region_after (by kernel_rfl) (by kernel_rfl) ?_; have q_n0 := fun (x : After _) => cell_keep n0 x.bel; have q_n1 := fun (x : After _) => cell_keep n1 x.bel; have q_n2 := fun (x : After _) => cell_keep n2 x.bel; have q_n3 := fun (x : After _) => cell_keep n3 x.bel; have q_n4 := fun (x : After _) => cell_keep n4 x.bel; have q_n5 := fun (x : After _) => cell_keep n5 x.bel; have q_s5 := fun (x : After _) => cell_keep s5 x.bel; (repeat (go_big_quiet_step ((first | (go_at_call 48; exact Ans.after (HCO.out _)))))); clear q_n0; clear q_n1; clear q_n2; clear q_n3; clear q_n4; clear q_n5; clear q_s5; refine wpQuiet_nil ?_; rintro _ ⟨⟨w1, hbn⟩, rfl⟩; (try simp only [After.w]); replace n0 := cell_keep n0 hbn; replace n1 := cell_keep n1 hbn; replace n2 := cell_keep n2 hbn; replace n3 := cell_keep n3 hbn; replace n4 := cell_keep n4 hbn; replace n5 := cell_keep n5 hbn; replace s5 := cell_keep s5 hbn; replace kT := kT.keep hbn; replace hO := hO.keep hbn; replace hF := OwnD.keep hF hbn; replace kA := kA.keep hbn; replace kZ := kZ.keep hbn; replace hb := bel_to (w := w) (by first | exact hb | exact hb.alloc hb.size _ | exact (hb.alloc hb.size _).alloc (Nat.le_trans hb.size (by simp)) _ | exact hb.setCell (by simp [hb.size]) _) hbn; clear hbn)
          go_wp2_with fail
          refine (HSF.out k fo fc g G k5 (w.heap.size + 1 + 1) _ kT hO hF ap nO nF hs1 (by omega) (by omega) HI1.out i3 (by omega)).mono ?_
          rintro e w4 ⟨fo', fc', rfl, kT2, hO2, hF2, ap', nF', hbn⟩
          replace kA := kA.keepTo (show w.heap.size < w.heap.size + 1 + 1 by omega) hbn
          replace kZ := kZ.keepTo (show w.heap.size + 1 < w.heap.size + 1 + 1 by omega) hbn
          replace hb := Below.trans hb (hbn.mono (show w.heap.size ≤ w.heap.size + 1 + 1 by omega))
          clear hbn n0 n1 n2 n3 n4 n5 s5 hF ap nF kT hO
          obtain ⟨z9, hz9⟩ : ∃ z, stepF R m N k (G, g) = z := ⟨_, rfl⟩
          rw [hz9] at kT2 hF2 ap' nF'
          have HZ9 : Hid (stepF R m N k (G, g) = z9) := hz9
          clear hz9
          have n3' := kT2.cell 3 _ rfl
          have HM2 : Hid (atOf w4 k5 = k + 1) := atOf_eq (by rw [Int.natCast_add]; exact n3')
          clear n3'
          go_wp2
          go_roundw
          case rel => exact ⟨k + 1, z9.1, z9.2, fo', fc', by omega, HST2.out, by rw [HSK.out, HZ9.out], kT2, hO2, hF2, ap', nF', kA, kZ, hb⟩
          case measure => rw [HM1.out, HM2.out]; omega
        · have hd2 : decide (g - t < b) = false := decide_eq_false hgb
          have HSK : Hid (S = k) := by
            show S = k
            have := HSE.out k hlt
            rw [HG.out, decide_eq_true hlt, hd2] at this
            rw [← HST.out, this]; rfl
          go_wp2_with fail
          (refine wp_region_after (by kernel_rfl) (by kernel_rfl) ?_; have q_n0 := fun (x : After _) => cell_keep n0 x.bel; have q_n1 := fun (x : After _) => cell_keep n1 x.bel; have q_n2 := fun (x : After _) => cell_keep n2 x.bel; have q_n3 := fun (x : After _) => cell_keep n3 x.bel; have q_n4 := fun (x : After _) => cell_keep n4 x.bel; have q_n5 := fun (x : After _) => cell_keep n5 x.bel; have q_s5 := fun (x : After _) => cell_keep s5 x.bel; (repeat (go_big_quiet_step ((first | (go_at_call 48; exact Ans.after (HCO.out _)))))); clear q_n0; clear q_n1; clear q_n2; clear q_n3; clear q_n4; clear q_n5; clear q_s5; refine wpQuiet_nil ?_; rintro _ ⟨⟨w1, hbn⟩, rfl⟩; (try simp only [After.w]); replace n0 := cell_keep n0 hbn; replace n1 := cell_keep n1 hbn; replace n2 := cell_keep n2 hbn; replace n3 := cell_keep n3 hbn; replace n4 := cell_keep n4 hbn; replace n5 := cell_keep n5 hbn; replace s5 := cell_keep s5 hbn; replace kT := kT.keep hbn; replace hO := hO.keep hbn; replace hF := OwnD.keep hF hbn; replace kA := kA.keep hbn; replace kZ := kZ.keep hbn; replace hb := bel_to (w := w) (by first | exact hb | exact hb.alloc hb.size _ | exact (hb.alloc hb.size _).alloc (Nat.le_trans hb.size (by simp)) _ | exact hb.setCell (by simp [hb.size]) _) hbn; clear hbn)
          have z0 := kZ.cell 0 (.int .i64 0) rfl
          have z1 := kZ.cell 1 (.slice none 0 0) rfl
          have z2 := kZ.cell 2 (.int .i64 0) rfl
          have z3 := kZ.cell 3 (.int .i64 0) rfl
          have z4 := kZ.cell 4 (.slice none 0 0) rfl
          have z5 := kZ.cell 5 (.int .i64 0) rfl
          have g0 := kZ.free 0
          have g1 := kZ.free 1
          have g2 := kZ.free 2
          have g3 := kZ.free 3
          have g4 := kZ.free 4
          have g5 := kZ.free 5
          have k6 := kZ.set6 (.int .i64 N) (.slice o R.length c) (.int .i64 m) (.int .i64 k) (.slice fo G.length fc) (.int .i64 g)
          unfold set6 at k6
          have q0 := k6.cell 0 _ rfl
          have q1 := k6.cell 1 _ rfl
          have q2 := k6.cell 2 _ rfl
          have q3 := k6.cell 3 _ rfl
          have q4 := k6.cell 4 _ rfl
          have q5 := k6.cell 5 _ rfl
          go_wp2
          refine bodyPost_ret (v := .agg #[.int .i64 N, .slice o R.length c, .int .i64 m, .int .i64 k, .slice fo G.length fc, .int .i64 g]) (by simp only [results, Tryz.results9]; simp [go_sem, q0, q1, q2, q3, q4, q5]) rfl ?_
          rw [HV.out, HSS.out, HSK.out, HG.out]
          exact ⟨o, c, fo, fc, xs, rfl, (hO.far6 (show w.heap.size + 1 < w.heap.size + 1 + 1 by omega) _ _ _ _ _ _).based (by omega), (OwnD.set6 hF (fun e => by have := (World.ownsRow.lt hF _ e).1; omega) _ _ _ _ _ _).based (by omega), ap, bel_set6 hb (Nat.le_succ _) _ _ _ _ _ _⟩
      · have hkk : k = M := by omega
        have HSK : Hid (S = k) := by
          show S = k
          rw [← HST.out, hkk]; exact HSX.out
        have hd1 : decide ((k : Int) < (M : Int)) = false := decide_eq_false (by omega)
        clear hkk
        go_wp2_with fail
        (refine wp_region_after (by kernel_rfl) (by kernel_rfl) ?_; have q_n0 := fun (x : After _) => cell_keep n0 x.bel; have q_n1 := fun (x : After _) => cell_keep n1 x.bel; have q_n2 := fun (x : After _) => cell_keep n2 x.bel; have q_n3 := fun (x : After _) => cell_keep n3 x.bel; have q_n4 := fun (x : After _) => cell_keep n4 x.bel; have q_n5 := fun (x : After _) => cell_keep n5 x.bel; have q_s5 := fun (x : After _) => cell_keep s5 x.bel; (repeat (go_big_quiet_step ((first | (go_at_call 48; exact Ans.after (HCO.out _)))))); clear q_n0; clear q_n1; clear q_n2; clear q_n3; clear q_n4; clear q_n5; clear q_s5; refine wpQuiet_nil ?_; rintro _ ⟨⟨w1, hbn⟩, rfl⟩; (try simp only [After.w]); replace n0 := cell_keep n0 hbn; replace n1 := cell_keep n1 hbn; replace n2 := cell_keep n2 hbn; replace n3 := cell_keep n3 hbn; replace n4 := cell_keep n4 hbn; replace n5 := cell_keep n5 hbn; replace s5 := cell_keep s5 hbn; replace kT := kT.keep hbn; replace hO := hO.keep hbn; replace hF := OwnD.keep hF hbn; replace kA := kA.keep hbn; replace kZ := kZ.keep hbn; replace hb := bel_to (w := w) (by first | exact hb | exact hb.alloc hb.size _ | exact (hb.alloc hb.size _).alloc (Nat.le_trans hb.size (by simp)) _ | exact hb.setCell (by simp [hb.size]) _) hbn; clear hbn)
        have z0 := kZ.cell 0 (.int .i64 0) rfl
        have z1 := kZ.cell 1 (.slice none 0 0) rfl
        have z2 := kZ.cell 2 (.int .i64 0) rfl
        have z3 := kZ.cell 3 (.int .i64 0) rfl
        have z4 := kZ.cell 4 (.slice none 0 0) rfl
        have z5 := kZ.cell 5 (.int .i64 0) rfl
        have g0 := kZ.free 0
        have g1 := kZ.free 1
        have g2 := kZ.free 2
        have g3 := kZ.free 3
        have g4 := kZ.free 4
        have g5 := kZ.free 5
        have k6 := kZ.set6 (.int .i64 N) (.slice o R.length c) (.int .i64 m) (.int .i64 k) (.slice fo G.length fc) (.int .i64 g)
        unfold set6 at k6
        have q0 := k6.cell 0 _ rfl
        have q1 := k6.cell 1 _ rfl
        have q2 := k6.cell 2 _ rfl
        have q3 := k6.cell 3 _ rfl
        have q4 := k6.cell 4 _ rfl
        have q5 := k6.cell 5 _ rfl
        go_wp2
        refine bodyPost_ret (v := .agg #[.int .i64 N, .slice o R.length c, .int .i64 m, .int .i64 k, .slice fo G.length fc, .int .i64 g]) (by simp only [results, Tryz.results9]; simp [go_sem, q0, q1, q2, q3, q4, q5]) rfl ?_
        rw [HV.out, HSS.out, HSK.out, HG.out]
        exact ⟨o, c, fo, fc, xs, rfl, (hO.far6 (show w.heap.size + 1 < w.heap.size + 1 + 1 by omega) _ _ _ _ _ _).based (by omega), (OwnD.set6 hF (fun e => by have := (World.ownsRow.lt hF _ e).1; omega) _ _ _ _ _ _).based (by omega), ap, bel_set6 hb (Nat.le_succ _) _ _ _ _ _ _⟩
end Go.Proofs.YtcenndlbhgfdfaaGreat
namespace Go.Proofs.YtcenndlbhgfdfaaGreat
open Go.RowKit
set_option linter.unusedVariables false
set_option maxRecDepth 100000

set_option maxHeartbeats 800000 in
theorem c_specNewSearch_no (n : Int) (oa) (ca : Nat) (R : List (List Int)) (m : Int) (w : World) (hR : RowsAt w oa R) (h : (isTabF n R && modeF m) = false) :
    Ans Tryz.prog 23 #[.agg #[.int .i64 n, .slice oa R.length ca], .int .i64 m] w (.tuple #[.agg #[.int .i64 0, .slice none 0 0, .int .i64 0, .int .i64 0, .slice none 0 0, .int .i64 0], .bool false]) := by
  unfold Ans
  have hb := bel2 w (.cells #[.int .i64 n, .slice oa R.length ca] 26) (.cells #[.int .i64 0, .slice none 0 0, .int .i64 0, .int .i64 0, .slice none 0 0, .int .i64 0] 29)
  have kA := (Blk.new w #[.int .i64 n, .slice oa R.length ca] 26).alloc (.cells #[.int .i64 0, .slice none 0 0, .int .i64 0, .int .i64 0, .slice none 0 0, .int .i64 0] 29)
  have kZ := Blk.new (w.alloc (.cells #[.int .i64 n, .slice oa R.length ca] 26)) #[.int .i64 0, .slice none 0 0, .int .i64 0, .int .i64 0, .slice none 0 0, .int .i64 0] 29
  simp only [World.size_alloc] at kZ
  have a0 := kA.cell 0 (.int .i64 n) rfl
  have a1 := kA.cell 1 (.slice oa R.length ca) rfl
  go_enter Tryz.func23, Tryz.ntmps23
  go_wp2_with fail
  refine Calls.mono (Ans.eqb (c_l4Fine n _ _ R m _ (hR.keep hb)) h) ?_
  rintro e w1 ⟨rfl, hbn⟩
  replace kZ := kZ.keep hbn
  replace hb := bel_to hb hbn
  clear hbn a0 a1 kA
  have z0 := kZ.cell 0 (.int .i64 0) rfl
  have z1 := kZ.cell 1 (.slice none 0 0) rfl
  have z2 := kZ.cell 2 (.int .i64 0) rfl
  have z3 := kZ.cell 3 (.int .i64 0) rfl
  have z4 := kZ.cell 4 (.slice none 0 0) rfl
  have z5 := kZ.cell 5 (.int .i64 0) rfl
  have f0 := kZ.free 0
  have f1 := kZ.free 1
  have f2 := kZ.free 2
  have f3 := kZ.free 3
  have f4 := kZ.free 4
  have f5 := kZ.free 5
  go_wp2
  exact bodyPost_ret (v := .tuple #[.agg #[.int .i64 0, .slice none 0 0, .int .i64 0, .int .i64 0, .slice none 0 0, .int .i64 0], .bool false]) (by simp [results, Tryz.results23, go_sem, z0, z1, z2, z3, z4, z5]) rfl ⟨rfl, bel_set6 hb (Nat.le_succ _) _ _ _ _ _ _⟩
theorem rows_small {n : Int} {R : List (List Int)} (h : isTabF n R = true) : R.length ≤ 1048576 ∧ ∀ j, j < R.length → (row R j).length ≤ 1048576 := by
  obtain ⟨h1, h5, h40, hr⟩ := isTab_of h
  exact ⟨by omega, fun j hj => by have := hr j hj; omega⟩
set_option maxHeartbeats 800000 in
theorem c_specNewSearch_ok (n : Int) (oa) (ca : Nat) (R : List (List Int)) (m : Int) (w : World) (hR : RowsC w oa R) (h : (isTabF n R && modeF m) = true) :
    Calls Tryz.prog 23 #[.agg #[.int .i64 n, .slice oa R.length ca], .int .i64 m] w fun e w' => ∃ o c xs, e = .returned (.tuple #[.agg #[.int .i64 n, .slice o R.length c, .int .i64 m, .int .i64 0, .slice none 0 0, .int .i64 0], .bool true]) ∧ OwnRows w' w.heap.size (.slice o R.length c) xs R ∧ Below w.heap.size w w' := by
  have hb := bel2 w (.cells #[.int .i64 n, .slice oa R.length ca] 26) (.cells #[.int .i64 0, .slice none 0 0, .int .i64 0, .int .i64 0, .slice none 0 0, .int .i64 0] 29)
  have kA := (Blk.new w #[.int .i64 n, .slice oa R.length ca] 26).alloc (.cells #[.int .i64 0, .slice none 0 0, .int .i64 0, .int .i64 0, .slice none 0 0, .int .i64 0] 29)
  have kZ := Blk.new (w.alloc (.cells #[.int .i64 n, .slice oa R.length ca] 26)) #[.int .i64 0, .slice none 0 0, .int .i64 0, .int .i64 0, .slice none 0 0, .int .i64 0] 29
  simp only [World.size_alloc] at kZ
  have a0 := kA.cell 0 (.int .i64 n) rfl
  have a1 := kA.cell 1 (.slice oa R.length ca) rfl
  have hsm := rows_small (by simp only [Bool.and_eq_true] at h; exact h.1)
  go_enter Tryz.func23, Tryz.ntmps23
  go_wp2_with fail
  refine Calls.mono (Ans.eqb (c_l4Fine n _ _ R m _ (hR.1.keep hb)) h) ?_
  rintro e w1 ⟨rfl, hbn⟩
  replace kZ := kZ.keep hbn
  replace kA := kA.keep hbn
  replace hb := bel_to hb hbn
  clear hbn a0 a1
  have a0 := kA.cell 0 (.int .i64 n) rfl
  have a1 := kA.cell 1 (.slice oa R.length ca) rfl
  have hsz := kZ.lt
  go_wp2_with fail
  refine (c_l3Copy n _ _ R _ (hR.keep hb) hsm.1 hsm.2).mono ?_
  rintro e w3 ⟨o, c, xs, rfl, hN, hbn⟩
  replace kZ := kZ.keep hbn
  replace hb := bel_to hb hbn
  clear hbn a0 a1 kA hsm
  have z0 := kZ.cell 0 (.int .i64 0) rfl
  have z1 := kZ.cell 1 (.slice none 0 0) rfl
  have z2 := kZ.cell 2 (.int .i64 0) rfl
  have z3 := kZ.cell 3 (.int .i64 0) rfl
  have z4 := kZ.cell 4 (.slice none 0 0) rfl
  have z5 := kZ.cell 5 (.int .i64 0) rfl
  have f0 := kZ.free 0
  have f1 := kZ.free 1
  have f2 := kZ.free 2
  have f3 := kZ.free 3
  have f4 := kZ.free 4
  have f5 := kZ.free 5
  go_wp2
  exact bodyPost_ret (v := .tuple #[.agg #[.int .i64 n, .slice o R.length c, .int .i64 m, .int .i64 0, .slice none 0 0, .int .i64 0], .bool true]) (by simp [results, Tryz.results23, go_sem, z0, z1, z2, z3, z4, z5]) rfl ⟨o, c, xs, rfl, (hN.far6 hsz _ _ _ _ _ _).based (by omega), bel_set6 hb (Nat.le_succ _) _ _ _ _ _ _⟩
end Go.Proofs.YtcenndlbhgfdfaaGreat
namespace Go.Proofs.YtcenndlbhgfdfaaGreat
open Go.RowKit
set_option linter.unusedVariables false
set_option maxRecDepth 100000

def nsF (n : Int) (R : List (List Int)) (m : Int) : Sr := if isTabF n R && modeF m then ⟨n, R, m, 0, [], 0⟩ else ⟨0, [], 0, 0, [], 0⟩
theorem ns_sizes {n m : Int} {R : List (List Int)} (h1 : R.length ≤ Room) (h2 : (sumL R R.length : Int) ≤ 1048576) (h3 : ∀ j, j < R.length → (row R j).length ≤ Room) : (nsF n R m).R.length ≤ Room ∧ (nsF n R m).F.length ≤ Room ∧ (sumL (nsF n R m).R (nsF n R m).R.length : Int) ≤ 1048576 ∧ (∀ j, j < (nsF n R m).R.length → (row (nsF n R m).R j).length ≤ Room) ∧ True := by
  unfold nsF
  split
  · exact ⟨h1, by simp, h2, h3, trivial⟩
  · exact ⟨by simp, by simp, by simp [sumL], fun j hj => absurd hj (by simp), trivial⟩
theorem c_NewSearch (n : Int) (oa) (ca : Nat) (R : List (List Int)) (m : Int) (w : World) (hR : RowsC w oa R) : SrRes 22 #[.agg #[.int .i64 n, .slice oa R.length ca], .int .i64 m] w (nsF n R m) (fun v => .tuple #[v, .bool (isTabF n R && modeF m)]) := by
  unfold SrRes nsF
  cases h : (isTabF n R && modeF m)
  · refine (c_NewSearch_no n oa ca R m w hR.1 h).mono ?_
    rintro e w' ⟨rfl, hb⟩
    exact ⟨none, 0, none, 0, [], rfl, OwnRows.none _ _, ownD_none _ _, apartR_none _ _, hb⟩
  · refine (c_NewSearch_ok n oa ca R m w hR h).mono ?_
    rintro e w' ⟨o, c, xs, rfl, hO, hb⟩
    exact ⟨o, c, none, 0, xs, rfl, hO, ownD_none _ _, apartR_none _ _, hb⟩
theorem c_specNewSearch (n : Int) (oa) (ca : Nat) (R : List (List Int)) (m : Int) (w : World) (hR : RowsC w oa R) : SrRes 23 #[.agg #[.int .i64 n, .slice oa R.length ca], .int .i64 m] w (nsF n R m) (fun v => .tuple #[v, .bool (isTabF n R && modeF m)]) := by
  unfold SrRes nsF
  cases h : (isTabF n R && modeF m)
  · refine (c_specNewSearch_no n oa ca R m w hR.1 h).mono ?_
    rintro e w' ⟨rfl, hb⟩
    exact ⟨none, 0, none, 0, [], rfl, OwnRows.none _ _, ownD_none _ _, apartR_none _ _, hb⟩
  · refine (c_specNewSearch_ok n oa ca R m w hR h).mono ?_
    rintro e w' ⟨o, c, xs, rfl, hO, hb⟩
    exact ⟨o, c, none, 0, xs, rfl, hO, ownD_none _ _, apartR_none _ _, hb⟩
end Go.Proofs.YtcenndlbhgfdfaaGreat
namespace Go.Proofs.YtcenndlbhgfdfaaGreat
open Go.ChangeShapes Go.WideShapes Go.ChangeAt Go.RowKit
set_option linter.unusedVariables false
set_option maxRecDepth 100000

/-- n bytes that can be read. -/
structure BytesAt (w : World) (oa : Option Addr) (n : Nat) : Prop where
  at_ : 0 < n → ∃ b off, oa = some ⟨b, off, none⟩ ∧ b < w.heap.size ∧ ∀ k, k < n → ∃ x : Int, w.cell? ⟨b, off + k, none⟩ = some (.int .u8 x) ∧ 0 ≤ x ∧ x < 256
theorem BytesAt.keep {w w' : World} {oa : Option Addr} {n : Nat} (h : BytesAt w oa n) (hb : Below w.heap.size w w') : BytesAt w' oa n :=
  ⟨fun h0 => by
    obtain ⟨b, off, e, hlt, hc⟩ := h.at_ h0
    exact ⟨b, off, e, Nat.lt_of_lt_of_le hlt hb.size, fun k hk => by rw [hb.cell (p := ⟨b, off + k, none⟩) hlt]; exact hc k hk⟩⟩
def InBytes (w : World) (v : Value) : Prop := ∃ (oa : Option Addr) (len cap : Nat), v = .slice oa len cap ∧ len ≤ maxLen ∧ BytesAt w oa len
theorem open_bytes {H : Type} {enc : TypeId × Value → H} {W : World} {base : Nat} {held : Bool} {v : Value} {d : DataW H} {ps : List MemPlace} (hok : Value.okWide Tryz.prog W .any base 22 v)
    (h : DataW.Trod enc Tryz.prog W 0 (fun _ => true) held 22 v d ps) : InBytes W v := by
  obtain ⟨a0, len0, cap0, rfl⟩ := okWide_slice Tryz.underlying22 hok
  obtain ⟨fuel, hf⟩ := h
  rcases Go.ChangeShapes.open_ints Tryz.underlying22 Tryz.underlying5 (by kernel_rfl) hf with ⟨hcs, _⟩ | ⟨x, l, c, zs, hcs, _, hl, hm, hz, _, hcell, hwz⟩
  · simp [Value.cells] at hcs
    obtain ⟨rfl, rfl, rfl⟩ := hcs
    exact ⟨_, _, _, rfl, Nat.zero_le _, ⟨fun h => absurd h (by simp)⟩⟩
  · simp [Value.cells] at hcs
    obtain ⟨rfl, rfl, rfl⟩ := hcs
    refine ⟨_, _, _, rfl, Nat.le_trans hl hm, ⟨fun h0 => ?_⟩⟩
    have hz' : zs.length = cap0 := by simpa using hz
    obtain ⟨b, off, spot⟩ := x
    have hc := hcell 0 (by omega)
    have hspot : spot = none := by simpa [Addr.add] using World.cell?_spot hc
    subst hspot
    refine ⟨b, off, rfl, World.block_lt_of_cell? W ⟨b, off, none⟩ (by simpa [Addr.add] using hc), fun k hk => ?_⟩
    have hk' : k < zs.length := by omega
    have := hcell k hk'
    have e : (⟨b, off, none⟩ : Addr).add k = ⟨b, off + k, none⟩ := by unfold Addr.add; split <;> simp_all
    rw [e] at this
    have hw := hwz (zs.getD k 0) (by rw [List.getD_eq_getElem?_getD, List.getElem?_eq_getElem hk']; exact List.getElem_mem hk')
    refine ⟨_, this, ?_⟩
    generalize zs.getD k 0 = z at *
    have hw' : (decide (IntKind.u8.min ≤ z) && decide (z ≤ IntKind.u8.max)) = true := hw
    rw [show IntKind.u8.min = 0 from rfl, show IntKind.u8.max = 255 from rfl, Bool.and_eq_true, decide_eq_true_eq, decide_eq_true_eq] at hw'
    omega
end Go.Proofs.YtcenndlbhgfdfaaGreat
namespace Go.Proofs.YtcenndlbhgfdfaaGreat
open Go.RowKit
set_option linter.unusedVariables false
set_option maxRecDepth 100000

/-- Block g is a cursor. -/
def Cur (w : World) (g : Nat) : Prop := ∃ (oa : Option Addr) (n cap i : Nat) (h : Int), Blk w g #[.slice oa n cap, .int .i64 i, .int .i64 h] 91 ∧ i ≤ n ∧ n ≤ 1048576 ∧ BytesAt w oa n ∧ (0 < n → ∀ a, oa = some a → a.block < g)
theorem Cur.lt {w : World} {g : Nat} (h : Cur w g) : g < w.heap.size := by obtain ⟨_, _, _, _, _, h, _⟩ := h; exact h.lt
theorem BytesAt.grown {w w' : World} {oa : Option Addr} {n : Nat} {row : Option Nat} (h : BytesAt w oa n) (hg : w.grownBy w' row) (hne : 0 < n → ∀ a, oa = some a → some a.block ≠ row) : BytesAt w' oa n :=
  ⟨fun h0 => by
    obtain ⟨b, off, e, hlt, hc⟩ := h.at_ h0
    exact ⟨b, off, e, Nat.lt_of_lt_of_le hlt hg.size, fun k hk => by rw [World.cell?_of_block (hg.block b hlt (hne h0 _ e))]; exact hc k hk⟩⟩
theorem Cur.keep {w w' : World} {g : Nat} (h : Cur w g) (hb : Below w.heap.size w w') : Cur w' g := by
  obtain ⟨oa, n, cap, i, x, h1, h2, h3, h4, h5⟩ := h
  exact ⟨oa, n, cap, i, x, h1.keep hb, h2, h3, h4.keep hb, h5⟩
theorem Blk.gr {a b : World} {g : Nat} {c : Array Value} {T : TypeId} {row : Option Nat} (h : Blk a g c T) (hg : a.grownBy b row) (hne : some g ≠ row) : Blk b g c T := (hg.block g h.lt hne).trans h
/-- What the call made behind the cursor may turn. -/
theorem Cur.grown {w w' : World} {g : Nat} {row : Option Nat} (h : Cur w g) (hg : w.grownBy w' row) (hr : ∀ k, row = some k → g < k) : Cur w' g := by
  obtain ⟨oa, n, cap, i, x, h1, h2, h3, h4, h5⟩ := h
  refine ⟨oa, n, cap, i, x, h1.gr hg (fun e => by have := hr g e.symm; omega), h2, h3, h4.grown hg (fun h0 a e e' => ?_), h5⟩
  have := h5 h0 a e
  have := hr _ e'.symm
  omega
theorem and255 (x : Int) : 0 ≤ bits BinOp.and .i64 x 255 ∧ bits BinOp.and .i64 x 255 < 256 := by
  unfold bits
  have h : ∀ b : BitVec 64, (b &&& BitVec.ofInt 64 255).toNat < 256 := fun b => by
    rw [BitVec.toNat_and]
    exact Nat.lt_of_le_of_lt Nat.and_le_right (by decide)
  have := h (BitVec.ofInt 64 x)
  have e : ∀ n : Nat, n < 256 → IntKind.i64.wrap (n : Int) = n := fun n hn => by
    unfold IntKind.wrap
    simp [IntKind.bits, IntKind.signed]
    omega
  show 0 ≤ IntKind.i64.wrap ((BitVec.ofInt 64 x &&& BitVec.ofInt 64 255).toNat : Int) ∧ IntKind.i64.wrap ((BitVec.ofInt 64 x &&& BitVec.ofInt 64 255).toNat : Int) < 256
  rw [e _ this]
  omega
set_option maxHeartbeats 800000 in
theorem c_l1Byte (g : Nat) (w : World) (hc : Cur w g) :
    Calls Tryz.prog 97 #[.pointer (some ⟨g, 0, none⟩)] w fun e w' => ∃ x : Int, e = .returned (.int .i64 x) ∧ 0 ≤ x ∧ x < 256 ∧ Cur w' g ∧ w.grownBy w' (some g) := by
  obtain ⟨oa, n, cap, i, h, k, hi, hn, hB, hlo⟩ := hc
  have k2 := k.cell 2 (.int .i64 h) rfl
  have f2 := k.free 2
  have HI : Hid (i ≤ n) := hi
  clear hi
  go_enter Tryz.func97, Tryz.ntmps97
  go_wp2_with fail
  have kk : Blk _ g #[.slice oa n cap, .int .i64 i, .int .i64 (wrap64 (wrap64 (h * 6364136223846793005) + 1442695040888963407))] 91 := k.set 2 (.int .i64 (wrap64 (wrap64 (h * 6364136223846793005) + 1442695040888963407)))
  have hg := grown_set w g 2 (.int .i64 (wrap64 (wrap64 (h * 6364136223846793005) + 1442695040888963407)))
  clear k k2 f2
  generalize wrap64 (wrap64 (h * 6364136223846793005) + 1442695040888963407) = h2 at *
  have s2 := kk.cell 2 (.int .i64 h2) rfl
  (refine wp_region_after (by kernel_rfl) (by kernel_rfl) ?_; have q_s2 := fun (x : After _) => cell_keep s2 x.bel; (repeat (go_big_quiet_step (fail))); clear q_s2; refine wpQuiet_nil ?_; rintro _ ⟨⟨w1, hbn⟩, rfl⟩; (try simp only [After.w]))
  replace kk := kk.keep hbn
  replace hg := grown_trans hg (grown_of_below hbn _)
  clear hbn s2
  have hx := and255 (bits BinOp.xor IntKind.i64 (h2 / 8589934592) (h2 / 35184372088832))
  generalize bits BinOp.and IntKind.i64 (bits BinOp.xor IntKind.i64 (h2 / 8589934592) (h2 / 35184372088832)) 255 = x at *
  obtain ⟨hx0, hx1⟩ := hx
  go_wp2_with fail
  have s0 := kk.cell 0 (.slice oa n cap) rfl
  have s1 := kk.cell 1 (.int .i64 i) rfl
  (refine wp_region_after (by kernel_rfl) (by kernel_rfl) ?_; have q_s0 := fun (x : After _) => cell_keep s0 x.bel; have q_s1 := fun (x : After _) => cell_keep s1 x.bel; (repeat (go_big_quiet_step (fail))); clear q_s0; clear q_s1; refine wpQuiet_nil ?_; rintro _ ⟨⟨w1, hbn⟩, rfl⟩; (try simp only [After.w]))
  replace kk := kk.keep hbn
  replace hg := grown_trans hg (grown_of_below hbn _)
  clear hbn s0 s1
  by_cases hlt : i < n
  · have hB' := hB.grown hg (fun h0 a e e' => by injection e' with e'; have := hlo h0 a e; omega)
    obtain ⟨b, off, rfl, hbs, hcell⟩ := hB'.at_ (by omega)
    obtain ⟨y, hy, hy0, hy1⟩ := hcell i hlt
    have s0 := kk.cell 0 (.slice (some ⟨b, off, none⟩) n cap) rfl
    have s1 := kk.cell 1 (.int .i64 i) rfl
    clear hcell
    go_wp2_with fail
    (refine wp_region_after (by kernel_rfl) (by kernel_rfl) ?_; have q_s0 := fun (x : After _) => cell_keep s0 x.bel; have q_s1 := fun (x : After _) => cell_keep s1 x.bel; have q_hy := fun (x : After _) => cell_keep hy x.bel; (repeat (go_big_quiet_step (fail))); clear q_s0; clear q_s1; clear q_hy; refine wpQuiet_nil ?_; rintro _ ⟨⟨w1, hbn⟩, rfl⟩; (try simp only [After.w]))
    replace kk := kk.keep hbn
    replace hg := grown_trans hg (grown_of_below hbn _)
    clear hbn s0 s1 hy
    have hz := and255 (x + y)
    generalize bits BinOp.and IntKind.i64 (x + y) 255 = z at *
    obtain ⟨hz0, hz1⟩ := hz
    have s1 := kk.cell 1 (.int .i64 i) rfl
    have f1 := kk.free 1
    have k2 : Blk _ g #[.slice (some ⟨b, off, none⟩) n cap, .int .i64 ((i : Int) + 1), .int .i64 h2] 91 := kk.set 1 (.int .i64 ((i : Int) + 1))
    have hg2 := grown_trans hg (grown_set _ g 1 (.int .i64 ((i : Int) + 1)))
    have hB2 := hB.grown hg2 (fun h0 a e e' => by injection e' with e'; have := hlo h0 a e; omega)
    clear hB' hg kk
    go_wp2
    go_ret
    exact ⟨z, rfl, hz0, hz1, ⟨_, n, cap, i + 1, h2, k2, by omega, hn, hB2, hlo⟩, hg2⟩
  · have HE : Hid (i = n) := by have := HI.out; show i = n; omega
    go_wp2
    go_ret
    exact ⟨x, rfl, hx0, hx1, ⟨oa, n, cap, i, h2, kk, HI.out, hn, hB.grown hg (fun h0 a e e' => by injection e' with e'; have := hlo h0 a e; omega), hlo⟩, hg⟩
end Go.Proofs.YtcenndlbhgfdfaaGreat
namespace Go.Proofs.YtcenndlbhgfdfaaGreat
open Go.RowKit
set_option linter.unusedVariables false
set_option maxRecDepth 100000

theorem tmod_in {x n : Int} (h0 : 0 ≤ x) (hn : 0 < n) : 0 ≤ x.tmod n ∧ x.tmod n < n := by
  rw [Int.tmod_eq_emod_of_nonneg h0]
  exact ⟨Int.emod_nonneg _ (by omega), Int.emod_lt_of_pos _ hn⟩
set_option maxHeartbeats 800000 in
theorem c_l1Below (g : Nat) (n : Int) (hn : n ≤ 256) (w : World) (hc : Cur w g) :
    Calls Tryz.prog 64 #[.pointer (some ⟨g, 0, none⟩), .int .i64 n] w fun e w' => ∃ x : Int, e = .returned (.int .i64 x) ∧ 0 ≤ x ∧ (0 < n → x < n) ∧ (n ≤ 0 → x = 0) ∧ Cur w' g ∧ w.grownBy w' (some g) := by
  by_cases h0 : n ≤ 0
  · go_enter Tryz.func64, Tryz.ntmps64
    go_wp2
    go_ret
    exact ⟨0, rfl, by omega, by omega, fun _ => rfl, hc, grown_refl _ _⟩
  · have hne : n ≠ 0 := by omega
    have hne1 : n ≠ -1 := by omega
    go_enter Tryz.func64, Tryz.ntmps64
    go_wp2_with fail
    refine (c_l1Byte g _ hc).mono ?_
    rintro e w1 ⟨x, rfl, hx0, hx1, hc1, hg⟩
    have hm0 := Int.emod_nonneg x hne
    have hm1 := Int.emod_lt_of_pos x (show 0 < n by omega)
    clear hc
    go_wp2
    go_ret
    exact ⟨x % n, rfl, hm0, fun _ => hm1, fun h => by omega, hc1, hg⟩
theorem c_l1Once (g : Nat) (n : Int) (hn : n ≤ 256) (w : World) (hc : Cur w g) :
    Calls Tryz.prog 58 #[.pointer (some ⟨g, 0, none⟩), .int .i64 n] w fun e w' => ∃ b : Bool, e = .returned (.bool b) ∧ Cur w' g ∧ w.grownBy w' (some g) := by
  go_enter Tryz.func58, Tryz.ntmps58
  go_wp2_with fail
  refine (c_l1Below g n hn _ hc).mono ?_
  rintro e w1 ⟨x, rfl, _, _, _, hc1, hg⟩
  clear hc
  go_wp2
  go_ret
  exact ⟨_, rfl, hc1, hg⟩
theorem IntsAt.grown {w w' : World} {oa : Option Addr} {L : List Int} {row : Option Nat} (h : IntsAt w oa L) (hg : w.grownBy w' row) (hne : ∀ a, oa = some a → some a.block ≠ row) : IntsAt w' oa L :=
  ⟨h.len, fun h0 => by
    obtain ⟨b, off, e, hlt, hc⟩ := h.at_ h0
    exact ⟨b, off, e, Nat.lt_of_lt_of_le hlt hg.size, fun k hk => by rw [World.cell?_of_block (hg.block b hlt (hne _ e))]; exact hc k hk⟩⟩
theorem c_l1PickInt (g : Nat) (oa) (cap : Nat) (L : List Int) (h0 : 0 < L.length) (hl : L.length ≤ 256) (w : World) (hc : Cur w g) (hL : IntsAt w oa L) (hne : ∀ a, oa = some a → a.block ≠ g) :
    Calls Tryz.prog 42 #[.pointer (some ⟨g, 0, none⟩), .slice oa L.length cap] w fun e w' => ∃ x : Int, e = .returned (.int .i64 x) ∧ x ∈ L ∧ Cur w' g ∧ w.grownBy w' (some g) := by
  go_enter Tryz.func42, Tryz.ntmps42
  go_wp2_with fail
  refine (c_l1Below g L.length (by omega) _ hc).mono ?_
  rintro e w1 ⟨x, rfl, hx0, hx1, _, hc1, hg⟩
  obtain ⟨k, rfl⟩ := Int.eq_ofNat_of_zero_le hx0
  have hk : k < L.length := by have := hx1 (by omega); omega
  replace hL := hL.grown hg (fun a e e' => hne a e (by injection e'))
  obtain ⟨b, off, rfl, hbs, hcell⟩ := hL.at_ (by omega)
  have h1 := hcell k hk
  have HM : Hid (nth L k ∈ L) := List.mem_iff_getElem?.2 ⟨k, nth_eq hk⟩
  clear hcell hx1 hc hne hL
  go_wp2
  go_ret
  exact ⟨_, rfl, HM.out, hc1, hg⟩
/-- A literal list of ints behind the cursor. -/
theorem lit_ints (w : World) (cs : Array Value) (L : List Int) (hl : L.length ≤ 100) (hcs : ∀ k, k < L.length → cs[k]? = some (.int .i64 (nth L k))) (T : TypeId) : IntsAt (w.alloc (.cells cs T)) (some ⟨w.heap.size, 0, none⟩) L :=
  ⟨by unfold Room; omega, fun _ => ⟨w.heap.size, 0, rfl, by simp, fun k hk => by rw [Nat.zero_add]; simp only [World.cell?, heap_alloc_new]; exact hcs k hk⟩⟩
theorem cur_alloc {w : World} {g : Nat} (h : Cur w g) (o : Obj) : Cur (w.alloc o) g := h.keep ((Below.refl _ _).alloc (Nat.le_refl _) o)
theorem grown_alloc {w w' : World} {row : Option Nat} {o : Obj} (h : (w.alloc o).grownBy w' row) : w.grownBy w' row := grown_trans (grown_of_below ((Below.refl _ _).alloc (Nat.le_refl _) o) row) h
theorem c_l2Any (g : Nat) (w : World) (hc : Cur w g) :
    Calls Tryz.prog 109 #[.pointer (some ⟨g, 0, none⟩)] w fun e w' => ∃ x : Int, e = .returned (.int .i64 x) ∧ -1 ≤ x ∧ x ≤ 33 ∧ Cur w' g ∧ w.grownBy w' (some g) := by
  go_enter Tryz.func109, Tryz.ntmps109
  go_wp2_with fail
  refine (c_l1Once g 8 (by omega) _ hc).mono ?_
  rintro e w1 ⟨t, rfl, hc1, hg⟩
  clear hc
  cases t
  · go_wp2_with fail
    refine (c_l1Below g 32 (by omega) _ hc1).mono ?_
    rintro e w2 ⟨x, rfl, hx0, hx1, _, hc2, hg2⟩
    have h32 := hx1 (by omega)
    replace hg := grown_trans hg hg2
    clear hc1 hg2 hx1
    go_wp2
    go_ret
    exact ⟨x, rfl, by omega, by omega, hc2, hg⟩
  · have hL := fun T => lit_ints w1 #[.int .i64 (-1), .int .i64 31, .int .i64 32, .int .i64 33] [-1, 31, 32, 33] (by simp) (fun k hk => by match k, hk with | 0, _ => rfl | 1, _ => rfl | 2, _ => rfl | 3, _ => rfl) T
    have hlt := hc1.lt
    go_wp2_with fail
    refine (c_l1PickInt g _ 4 [-1, 31, 32, 33] (by simp) (by simp) _ (cur_alloc hc1 _) (hL _) (fun a e => by injection e with e; subst e; simp; omega)).mono ?_
    rintro e w2 ⟨x, rfl, hx, hc2, hg2⟩
    replace hg := grown_trans hg (grown_alloc hg2)
    have hx2 : -1 ≤ x ∧ x ≤ 33 := by simp at hx; omega
    clear hc1 hg2 hL hx
    go_wp2
    go_ret
    exact ⟨x, rfl, hx2.1, hx2.2, hc2, hg⟩
end Go.Proofs.YtcenndlbhgfdfaaGreat
namespace Go.Proofs.YtcenndlbhgfdfaaGreat
open Go.RowKit
set_option linter.unusedVariables false
set_option maxRecDepth 100000

set_option maxHeartbeats 800000 in
theorem c_l1New (oa) (n cap : Nat) (hn : n ≤ 1048576) (w : World) (hB : BytesAt w oa n) :
    Calls Tryz.prog 40 #[.slice oa n cap] w fun e w' => e = .returned (.pointer (some ⟨w.heap.size, 0, none⟩)) ∧ Cur w' w.heap.size ∧ Below w.heap.size w w' := by
  go_enter Tryz.func40, Tryz.ntmps40
  go_wp2
  go_loop [3, 4] (fun h i => ∃ (x : Int) (k : Nat), h = .int .i64 x ∧ i = .int .i64 k ∧ k ≤ n) (fun _ i => n - (intOf i).toNat)
  case atStart => exact ⟨_, 0, rfl, rfl, Nat.zero_le _⟩
  case round =>
    obtain ⟨x, k, rfl, rfl, hk⟩ := hrel
    by_cases hlt : k < n
    · by_cases h4 : (k : Int) < 4000
      · obtain ⟨b, off, rfl, hbs, hc⟩ := hB.at_ (by omega)
        obtain ⟨y, hy, hy0, hy1⟩ := hc k hlt
        clear hc hB
        go_wp2
        go_round
        case rel => exact ⟨_, k + 1, rfl, by go_num, by omega⟩
        case measure => simp [intOf]; omega
      · go_wp2
        go_ret
        exact ⟨rfl, ⟨oa, n, cap, 0, x, Blk.new w _ _, Nat.zero_le _, hn, hB.keep ((Below.refl _ _).alloc (Nat.le_refl _) _), fun h0 a e => by obtain ⟨b, off, e', hlt, _⟩ := hB.at_ h0; rw [e] at e'; injection e' with e'; rw [e']; exact hlt⟩, (Below.refl _ _).alloc (Nat.le_refl _) _⟩
    · have hkk : k = n := by omega
      have HK : Hid (k = n) := hkk
      clear hkk
      go_wp2
      go_ret
      exact ⟨rfl, ⟨oa, n, cap, 0, x, Blk.new w _ _, Nat.zero_le _, hn, hB.keep ((Below.refl _ _).alloc (Nat.le_refl _) _), fun h0 a e => by obtain ⟨b, off, e', hlt, _⟩ := hB.at_ h0; rw [e] at e'; injection e' with e'; rw [e']; exact hlt⟩, (Below.refl _ _).alloc (Nat.le_refl _) _⟩
/-- Whatever was made before the cursor's own turns lies as it lay. -/
theorem Blk.cur {w w' : World} {k g : Nat} {c : Array Value} {T : TypeId} (h : Blk w k c T) (hg : w.grownBy w' (some g)) (hne : k ≠ g) : Blk w' k c T := h.gr hg (fun e => hne (by injection e))
theorem grown_new {w w2 : World} {g k j : Nat} {v : Value} (hG : w.grownBy w2 (some g)) (hk : w.heap.size ≤ k) : w.grownBy (w2.setCell ⟨k, j, none⟩ v) (some g) :=
  ⟨hG.os, hG.tape, hG.output, by have := hG.size; simpa using this, fun i hi hne => (Below.heap_setCell w2 ⟨k, j, none⟩ v i (by show i ≠ k; omega)).trans (hG.block i hi hne)⟩
theorem Cur.set {w : World} {g k j : Nat} {v : Value} (h : Cur w g) (hk : g < k) : Cur (w.setCell ⟨k, j, none⟩ v) g := h.grown (grown_set w k j v) (fun i e => by injection e with e; omega)
set_option maxHeartbeats 800000 in
theorem c_l6Dep (g : Nat) (N : Nat) (h5 : N ≤ 5) (w : World) (hc : Cur w g) :
    Calls Tryz.prog 87 #[.pointer (some ⟨g, 0, none⟩), .int .i64 N] w fun e w' => ∃ l r : Int, e = .returned (.agg #[.int .i64 l, .int .i64 r]) ∧ Cur w' g ∧ w.grownBy w' (some g) := by
  have hp := pow_wrap (n := (N : Int)) (by omega) (by omega)
  simp only [Int.toNat_natCast] at hp
  have hp1 := hp.1
  have hp2 := hp.2.1
  clear hp
  have hlt := hc.lt
  have kZ := Blk.new w #[.int .i64 0, .int .i64 0] 38
  have hG := grown_of_below ((Below.refl w.heap.size w).alloc (Nat.le_refl _) (.cells #[.int .i64 0, .int .i64 0] 38)) (some g)
  replace hc := cur_alloc hc (.cells #[.int .i64 0, .int .i64 0] 38)
  go_enter Tryz.func87, Tryz.ntmps87
  go_wp2_with fail
  refine (c_l1Below g (2 ^ N) (by omega) _ hc).mono ?_
  rintro e w1 ⟨x, rfl, _, _, _, hc1, hg⟩
  replace kZ := kZ.cur hg (by omega)
  replace hG := grown_trans hG hg
  clear hc hg
  go_wp2_with fail
  refine (c_l1Below g N (by omega) _ hc1).mono ?_
  rintro e w2 ⟨y, rfl, _, _, _, hc2, hg⟩
  replace kZ := kZ.cur hg (by omega)
  replace hG := grown_trans hG hg
  clear hc1 hg
  have z0 := kZ.cell 0 (.int .i64 0) rfl
  have z1 := kZ.cell 1 (.int .i64 0) rfl
  have f0 := kZ.free 0
  have f1 := kZ.free 1
  go_wp2
  exact bodyPost_ret (v := .agg #[.int .i64 x, .int .i64 y]) (by simp [results, Tryz.results87, go_sem, z0, z1]) rfl ⟨x, y, rfl, (hc2.set hlt).set hlt, grown_new (grown_new hG (Nat.le_refl _)) (Nat.le_refl _)⟩
set_option maxHeartbeats 1600000 in
theorem c_l6Any (g : Nat) (n : Int) (w : World) (hc : Cur w g) :
    Calls Tryz.prog 78 #[.pointer (some ⟨g, 0, none⟩), .int .i64 n] w fun e w' => ∃ l r : Int, e = .returned (.agg #[.int .i64 l, .int .i64 r]) ∧ Cur w' g ∧ w.grownBy w' (some g) := by
  have hlt := hc.lt
  have kZ := Blk.new w #[.int .i64 0, .int .i64 0] 38
  have hG := grown_of_below ((Below.refl w.heap.size w).alloc (Nat.le_refl _) (.cells #[.int .i64 0, .int .i64 0] 38)) (some g)
  replace hc := cur_alloc hc (.cells #[.int .i64 0, .int .i64 0] 38)
  cases hin : inB n 1 5
  · go_enter Tryz.func78, Tryz.ntmps78
    go_wp2_with fail
    refine Calls.mono (Ans.eqb (c_l1In _ _ _ _) hin) ?_
    rintro e w1 ⟨rfl, hbn⟩
    replace kZ := kZ.keep hbn
    replace hc := hc.keep hbn
    replace hG := grown_trans hG (grown_of_below hbn _)
    clear hbn
    go_wp2_with fail
    refine (c_l6Dep g 3 (by omega) _ hc).mono ?_
    rintro e w2 ⟨l, r, rfl, hc2, hg⟩
    replace kZ := kZ.cur hg (by omega)
    replace hG := grown_trans hG hg
    clear hc hg
    have kD := Blk.new w2 #[.int .i64 l, .int .i64 r] 38
    have hl2 := kZ.lt
    replace kZ := kZ.alloc (.cells #[.int .i64 l, .int .i64 r] 38)
    replace hc2 := cur_alloc hc2 (.cells #[.int .i64 l, .int .i64 r] 38)
    replace hG := grown_trans hG (grown_of_below ((Below.refl w2.heap.size w2).alloc (Nat.le_refl _) (.cells #[.int .i64 l, .int .i64 r] 38)) (some g))
    go_wp2_with fail
    refine (c_l1Below g 14 (by omega) _ hc2).mono ?_
    rintro e w3 ⟨q, rfl, _, _, _, hc3, hg⟩
    replace kZ := kZ.cur hg (by omega)
    replace kD := kD.cur hg (by omega)
    replace hG := grown_trans hG hg
    clear hc2 hg
    by_cases e0 : q = 0
    · go_wp2_with fail
      refine (c_l2Any g _ hc3).mono ?_
      rintro e w4 ⟨x, rfl, _, _, hc4, hg⟩
      replace kZ := kZ.cur hg (by omega)
      replace kD := kD.cur hg (by omega)
      replace hG := grown_trans hG hg
      clear hc3 hg
      have d0 := kD.cell 0 (.int .i64 l) rfl
      have d1 := kD.cell 1 (.int .i64 r) rfl
      have e0' := kD.free 0
      have z0 := kZ.cell 0 (.int .i64 0) rfl
      have z1 := kZ.cell 1 (.int .i64 0) rfl
      have f0 := kZ.free 0
      have f1 := kZ.free 1
      have kD2 : Blk _ w2.heap.size #[.int .i64 x, .int .i64 r] 38 := kD.set 0 (.int .i64 x)
      have kZ2 := kZ.far ⟨w2.heap.size, 0, none⟩ (.int .i64 x) (by simp; omega)
      have y0 := kD2.cell 0 (.int .i64 x) rfl
      have y1 := kD2.cell 1 (.int .i64 r) rfl
      have v0 := kZ2.cell 0 (.int .i64 0) rfl
      have v1 := kZ2.cell 1 (.int .i64 0) rfl
      have g0 := kZ2.free 0
      have g1 := kZ2.free 1
      have hc5 := Cur.set (j := 0) (v := .int .i64 x) hc4 (show g < w2.heap.size by omega)
      have hG5 := grown_new (j := 0) (v := .int .i64 x) hG (show w.heap.size ≤ w2.heap.size by omega)
      go_wp2
      exact bodyPost_ret (v := .agg #[.int .i64 x, .int .i64 r]) (by simp [results, Tryz.results78, go_sem, v0, v1]) rfl ⟨x, r, rfl, (hc5.set hlt).set hlt, grown_new (grown_new hG5 (Nat.le_refl _)) (Nat.le_refl _)⟩
    · by_cases e1 : q = 1
      · have hL := fun T => lit_ints w3 #[.int .i64 (-1), .int .i64 4, .int .i64 5] [-1, 4, 5] (by simp) (fun k hk => by match k, hk with | 0, _ => rfl | 1, _ => rfl | 2, _ => rfl) T
        have hlt3 := hc3.lt
        go_wp2_with fail
        refine (c_l1PickInt g _ 3 [-1, 4, 5] (by simp) (by simp) _ (cur_alloc hc3 _) (hL _) (fun a e => by injection e with e; subst e; simp; omega)).mono ?_
        rintro e w4 ⟨x, rfl, _, hc4, hg⟩
        replace hg := grown_alloc hg
        replace kZ := kZ.cur hg (by omega)
        replace kD := kD.cur hg (by omega)
        replace hG := grown_trans hG hg
        clear hc3 hg hL
        have d0 := kD.cell 0 (.int .i64 l) rfl
        have d1 := kD.cell 1 (.int .i64 r) rfl
        have e0' := kD.free 1
        have kD2 : Blk _ w2.heap.size #[.int .i64 l, .int .i64 x] 38 := kD.set 1 (.int .i64 x)
        have kZ2 := kZ.far ⟨w2.heap.size, 1, none⟩ (.int .i64 x) (by simp; omega)
        have y0 := kD2.cell 0 (.int .i64 l) rfl
        have y1 := kD2.cell 1 (.int .i64 x) rfl
        have v0 := kZ2.cell 0 (.int .i64 0) rfl
        have v1 := kZ2.cell 1 (.int .i64 0) rfl
        have g0 := kZ2.free 0
        have g1 := kZ2.free 1
        have hc5 := Cur.set (j := 1) (v := .int .i64 x) hc4 (show g < w2.heap.size by omega)
        have hG5 := grown_new (j := 1) (v := .int .i64 x) hG (show w.heap.size ≤ w2.heap.size by omega)
        go_wp2
        exact bodyPost_ret (v := .agg #[.int .i64 l, .int .i64 x]) (by simp [results, Tryz.results78, go_sem, v0, v1]) rfl ⟨l, x, rfl, (hc5.set hlt).set hlt, grown_new (grown_new hG5 (Nat.le_refl _)) (Nat.le_refl _)⟩
      · have d0 := kD.cell 0 (.int .i64 l) rfl
        have d1 := kD.cell 1 (.int .i64 r) rfl
        have z0 := kZ.cell 0 (.int .i64 0) rfl
        have z1 := kZ.cell 1 (.int .i64 0) rfl
        have f0 := kZ.free 0
        have f1 := kZ.free 1
        go_wp2
        exact bodyPost_ret (v := .agg #[.int .i64 l, .int .i64 r]) (by simp [results, Tryz.results78, go_sem, z0, z1]) rfl ⟨l, r, rfl, (hc3.set hlt).set hlt, grown_new (grown_new hG (Nat.le_refl _)) (Nat.le_refl _)⟩
  · obtain ⟨N, rfl⟩ := Int.eq_ofNat_of_zero_le (show 0 ≤ n by unfold inB at hin; simp at hin; omega)
    have hN : N ≤ 5 := by unfold inB at hin; simp at hin; omega
    go_enter Tryz.func78, Tryz.ntmps78
    go_wp2_with fail
    refine Calls.mono (Ans.eqb (c_l1In _ _ _ _) hin) ?_
    rintro e w1 ⟨rfl, hbn⟩
    replace kZ := kZ.keep hbn
    replace hc := hc.keep hbn
    replace hG := grown_trans hG (grown_of_below hbn _)
    clear hbn
    go_wp2_with fail
    refine (c_l6Dep g N (by omega) _ hc).mono ?_
    rintro e w2 ⟨l, r, rfl, hc2, hg⟩
    replace kZ := kZ.cur hg (by omega)
    replace hG := grown_trans hG hg
    clear hc hg
    have kD := Blk.new w2 #[.int .i64 l, .int .i64 r] 38
    have hl2 := kZ.lt
    replace kZ := kZ.alloc (.cells #[.int .i64 l, .int .i64 r] 38)
    replace hc2 := cur_alloc hc2 (.cells #[.int .i64 l, .int .i64 r] 38)
    replace hG := grown_trans hG (grown_of_below ((Below.refl w2.heap.size w2).alloc (Nat.le_refl _) (.cells #[.int .i64 l, .int .i64 r] 38)) (some g))
    go_wp2_with fail
    refine (c_l1Below g 14 (by omega) _ hc2).mono ?_
    rintro e w3 ⟨q, rfl, _, _, _, hc3, hg⟩
    replace kZ := kZ.cur hg (by omega)
    replace kD := kD.cur hg (by omega)
    replace hG := grown_trans hG hg
    clear hc2 hg
    by_cases e0 : q = 0
    · go_wp2_with fail
      refine (c_l2Any g _ hc3).mono ?_
      rintro e w4 ⟨x, rfl, _, _, hc4, hg⟩
      replace kZ := kZ.cur hg (by omega)
      replace kD := kD.cur hg (by omega)
      replace hG := grown_trans hG hg
      clear hc3 hg
      have d0 := kD.cell 0 (.int .i64 l) rfl
      have d1 := kD.cell 1 (.int .i64 r) rfl
      have e0' := kD.free 0
      have z0 := kZ.cell 0 (.int .i64 0) rfl
      have z1 := kZ.cell 1 (.int .i64 0) rfl
      have f0 := kZ.free 0
      have f1 := kZ.free 1
      have kD2 : Blk _ w2.heap.size #[.int .i64 x, .int .i64 r] 38 := kD.set 0 (.int .i64 x)
      have kZ2 := kZ.far ⟨w2.heap.size, 0, none⟩ (.int .i64 x) (by simp; omega)
      have y0 := kD2.cell 0 (.int .i64 x) rfl
      have y1 := kD2.cell 1 (.int .i64 r) rfl
      have v0 := kZ2.cell 0 (.int .i64 0) rfl
      have v1 := kZ2.cell 1 (.int .i64 0) rfl
      have g0 := kZ2.free 0
      have g1 := kZ2.free 1
      have hc5 := Cur.set (j := 0) (v := .int .i64 x) hc4 (show g < w2.heap.size by omega)
      have hG5 := grown_new (j := 0) (v := .int .i64 x) hG (show w.heap.size ≤ w2.heap.size by omega)
      go_wp2
      exact bodyPost_ret (v := .agg #[.int .i64 x, .int .i64 r]) (by simp [results, Tryz.results78, go_sem, v0, v1]) rfl ⟨x, r, rfl, (hc5.set hlt).set hlt, grown_new (grown_new hG5 (Nat.le_refl _)) (Nat.le_refl _)⟩
    · by_cases e1 : q = 1
      · have hL := fun T => lit_ints w3 #[.int .i64 (-1), .int .i64 4, .int .i64 5] [-1, 4, 5] (by simp) (fun k hk => by match k, hk with | 0, _ => rfl | 1, _ => rfl | 2, _ => rfl) T
        have hlt3 := hc3.lt
        go_wp2_with fail
        refine (c_l1PickInt g _ 3 [-1, 4, 5] (by simp) (by simp) _ (cur_alloc hc3 _) (hL _) (fun a e => by injection e with e; subst e; simp; omega)).mono ?_
        rintro e w4 ⟨x, rfl, _, hc4, hg⟩
        replace hg := grown_alloc hg
        replace kZ := kZ.cur hg (by omega)
        replace kD := kD.cur hg (by omega)
        replace hG := grown_trans hG hg
        clear hc3 hg hL
        have d0 := kD.cell 0 (.int .i64 l) rfl
        have d1 := kD.cell 1 (.int .i64 r) rfl
        have e0' := kD.free 1
        have kD2 : Blk _ w2.heap.size #[.int .i64 l, .int .i64 x] 38 := kD.set 1 (.int .i64 x)
        have kZ2 := kZ.far ⟨w2.heap.size, 1, none⟩ (.int .i64 x) (by simp; omega)
        have y0 := kD2.cell 0 (.int .i64 l) rfl
        have y1 := kD2.cell 1 (.int .i64 x) rfl
        have v0 := kZ2.cell 0 (.int .i64 0) rfl
        have v1 := kZ2.cell 1 (.int .i64 0) rfl
        have g0 := kZ2.free 0
        have g1 := kZ2.free 1
        have hc5 := Cur.set (j := 1) (v := .int .i64 x) hc4 (show g < w2.heap.size by omega)
        have hG5 := grown_new (j := 1) (v := .int .i64 x) hG (show w.heap.size ≤ w2.heap.size by omega)
        go_wp2
        exact bodyPost_ret (v := .agg #[.int .i64 l, .int .i64 x]) (by simp [results, Tryz.results78, go_sem, v0, v1]) rfl ⟨l, x, rfl, (hc5.set hlt).set hlt, grown_new (grown_new hG5 (Nat.le_refl _)) (Nat.le_refl _)⟩
      · have d0 := kD.cell 0 (.int .i64 l) rfl
        have d1 := kD.cell 1 (.int .i64 r) rfl
        have z0 := kZ.cell 0 (.int .i64 0) rfl
        have z1 := kZ.cell 1 (.int .i64 0) rfl
        have f0 := kZ.free 0
        have f1 := kZ.free 1
        go_wp2
        exact bodyPost_ret (v := .agg #[.int .i64 l, .int .i64 r]) (by simp [results, Tryz.results78, go_sem, z0, z1]) rfl ⟨l, r, rfl, (hc3.set hlt).set hlt, grown_new (grown_new hG (Nat.le_refl _)) (Nat.le_refl _)⟩
end Go.Proofs.YtcenndlbhgfdfaaGreat
namespace Go.Proofs.YtcenndlbhgfdfaaGreat
open Go.RowKit
set_option linter.unusedVariables false
set_option maxRecDepth 100000

def redStep (D : List (Int × Int)) (r x c : Int) : Int := if dif x (one c) != x && hasc (cloF D (dif x (one c))) r then dif x (one c) else x
def fiveI : List Int := [0, 1, 2, 3, 4]
def redF (D : List (Int × Int)) (l r : Int) : Int := fiveI.foldl (redStep D r) l
def reduceF (n : Int) (D : List (Int × Int)) (l r : Int) : Int := if impliesDepF n D l r then redF D l r else l

theorem redStep_st {D : List (Int × Int)} {r x c : Int} (hx : St x) (hc : Co c) : St (redStep D r x c) := by
  unfold redStep; split
  · exact dif_st hx (one_st hc)
  · exact hx
theorem dif_one_same {x c : Int} (hx : St x) (hc : Co c) : (dif x (one c) != x) = hasc x c := by
  obtain ⟨n, hn, rfl⟩ := st_nat hx; obtain ⟨k, hk, rfl⟩ := co_nat hc
  have h : ∀ n < 32, ∀ k < 5, (dif (n : Nat) (one (k : Nat)) != (n : Nat)) = hasc (n : Nat) (k : Nat) := by decide +kernel
  exact h n hn k hk
theorem redStep_no {D : List (Int × Int)} {r x c : Int} (hx : St x) (hc : Co c) (h : hasc x c = false) : redStep D r x c = x := by
  unfold redStep; rw [dif_one_same hx hc, h]; simp
theorem redStep_other {D : List (Int × Int)} {r x c e : Int} (hx : St x) (hc : Co c) (he : Co e) (hne : c ≠ e) : hasc (redStep D r x c) e = hasc x e := by
  unfold redStep; split
  · rw [hasc_dif hx (one_st hc) he, hasc_one hc he]
    simp [hne]
  · rfl
theorem impliesDepF_val {n : Int} {D : List (Int × Int)} {l r : Int} (h : impliesDepF n D l r = true) : Val D ∧ St l ∧ Co r := by
  simp only [impliesDepF, Bool.and_eq_true] at h
  have := (isDepF_val h.2.1).1
  exact ⟨(areDepsF_val h.1).1, this.1, this.2⟩

theorem five_drop (k : Nat) (hk : k < 5) (f : Int → Int → Int) (x : Int) : (fiveI.drop k).foldl f x = (fiveI.drop (k + 1)).foldl f (f x k) := by
  match k, hk with
  | 0, _ => rfl
  | 1, _ => rfl
  | 2, _ => rfl
  | 3, _ => rfl
  | 4, _ => rfl

end Go.Proofs.YtcenndlbhgfdfaaGreat
namespace Go.Proofs.YtcenndlbhgfdfaaGreat
open Go.RowKit
set_option linter.unusedVariables false
set_option maxRecDepth 100000

theorem members_mem {x c : Int} (hx : St x) : c ∈ membersF x ↔ Co c ∧ hasc x c = true := by
  have e : stB x = true := by simpa [stB] using hx
  unfold membersF membersUpTo
  rw [e, if_pos rfl, List.mem_filter, List.mem_map]
  constructor
  · rintro ⟨⟨k, hk, rfl⟩, h⟩
    exact ⟨⟨by omega, by have := List.mem_range.1 hk; omega⟩, h⟩
  · rintro ⟨hc, h⟩
    obtain ⟨k, hk, rfl⟩ := co_nat hc
    exact ⟨⟨k, List.mem_range.2 hk, rfl⟩, h⟩
theorem members_nodup (x : Int) : (membersF x).Nodup := by
  unfold membersF membersUpTo
  split
  · apply List.Pairwise.filter
    rw [show ((List.range 5).map fun (c : Nat) => (c : Int)) = fiveI from rfl]
    decide
  · exact List.Pairwise.nil
theorem fold_filter {D : List (Int × Int)} {r l : Int} : ∀ (cs : List Int) (x : Int), St x → (∀ c ∈ cs, Co c) → cs.Nodup → (∀ c ∈ cs, hasc x c = hasc l c) →
    cs.foldl (redStep D r) x = (cs.filter (hasc l)).foldl (redStep D r) x
  | [], _, _, _, _, _ => rfl
  | c :: cs, x, hx, hco, hnd, h => by
    have hc := hco c (List.mem_cons_self ..)
    have hco' : ∀ d ∈ cs, Co d := fun d hd => hco d (List.mem_cons_of_mem _ hd)
    obtain ⟨hn1, hn2⟩ := List.nodup_cons.1 hnd
    have hst := redStep_st (D := D) (r := r) hx hc
    have hs : ∀ d ∈ cs, hasc (redStep D r x c) d = hasc l d := fun d hd => by
      rw [redStep_other hx hc (hco' d hd) (fun e => hn1 (e ▸ hd))]
      exact h d (List.mem_cons_of_mem _ hd)
    have ih := fold_filter (D := D) (r := r) (l := l) cs _ hst hco' hn2 hs
    rw [List.foldl_cons, List.filter_cons]
    cases hl : hasc l c
    · have e : redStep D r x c = x := redStep_no hx hc (by rw [h c (List.mem_cons_self ..), hl])
      rw [e] at ih ⊢
      exact ih
    · simp only [if_true, List.foldl_cons]
      exact ih
theorem redF_members {D : List (Int × Int)} {l r : Int} (hl : St l) : redF D l r = (membersF l).foldl (redStep D r) l := by
  have e : stB l = true := by simpa [stB] using hl
  have hm : membersF l = fiveI.filter (hasc l) := by unfold membersF membersUpTo; rw [e, if_pos rfl]; rfl
  rw [hm]
  exact fold_filter fiveI l hl (by decide) (by decide) (fun _ _ => rfl)
theorem nth_drop {L : List Int} {k : Nat} (hk : k < L.length) : L.drop k = nth L k :: L.drop (k + 1) := by
  rw [List.drop_eq_getElem_cons hk]
  congr 1
  have := nth_eq hk
  rw [List.getElem?_eq_getElem hk] at this
  exact Option.some.inj this

end Go.Proofs.YtcenndlbhgfdfaaGreat
namespace Go.Proofs.YtcenndlbhgfdfaaGreat
open Go.RowKit
set_option linter.unusedVariables false
set_option maxRecDepth 100000

def coverBad (n : Int) (D : List (Int × Int)) (i : Nat) : Bool := impliesDepF n (eraD D i) (nl D i) (nr D i) || !(reduceF n D (nl D i) (nr D i) == nl D i)
def isCoverF (n : Int) (D : List (Int × Int)) : Bool := areDepsF n D && (List.range D.length).all fun i => !coverBad n D i
theorem OwnD.cap {w : World} {base : Nat} {v : Value} {L : List (Int × Int)} (h : OwnD w base v L) : ∃ oa cap, v = .slice oa L.length cap ∧ L.length ≤ cap ∧ (oa = none → cap = 0) := by
  rcases h.2 with ⟨hv, h0⟩ | ⟨g, cap, cur, hv, hb, hg, hl, _⟩
  · exact ⟨none, 0, by rw [hv, h0], by omega, fun _ => rfl⟩
  · exact ⟨_, cap, hv, hl, fun h => by cases h⟩
theorem range_all_succ (p : Nat → Bool) (k : Nat) : (List.range (k + 1)).all p = ((List.range k).all p && p k) := by
  rw [List.range_succ, List.all_append]; simp
theorem range_all_false (p : Nat → Bool) (k n : Nat) (hk : k < n) (h : p k = false) : (List.range n).all p = false := by
  rw [List.all_eq_false]; exact ⟨k, List.mem_range.2 hk, by simp [h]⟩
theorem eraD_len {D : List (Int × Int)} {i : Nat} (h : i < D.length) : (eraD D i).length = D.length - 1 := by
  unfold eraD; rw [List.length_append, List.length_take, List.length_drop]; omega

theorem mem_eraD {D : List (Int × Int)} {i : Nat} {d : Int × Int} (h : d ∈ eraD D i) : d ∈ D := by
  unfold eraD at h
  rcases List.mem_append.1 h with h | h
  · exact List.mem_of_mem_take h
  · exact List.mem_of_mem_drop h
theorem nth_mem {D : List (Int × Int)} {k : Nat} (h : k < D.length) : (nl D k, nr D k) ∈ D := List.mem_iff_getElem?.2 ⟨k, dnth_eq h⟩
theorem areDepsF_mem {n : Int} {D : List (Int × Int)} (h : areDepsF n D = true) {d : Int × Int} (hd : d ∈ D) : isDepF n d.1 d.2 = true := by
  simp only [areDepsF, Bool.and_eq_true, decide_eq_true_eq, List.all_eq_true] at h
  exact h.1 d hd
theorem areDepsF_sub {n : Int} {D E : List (Int × Int)} (h : areDepsF n D = true) (hs : ∀ d ∈ E, d ∈ D) (hl : E.length ≤ D.length) : areDepsF n E = true := by
  simp only [areDepsF, Bool.and_eq_true, decide_eq_true_eq, List.all_eq_true] at h ⊢
  exact ⟨fun d hd => h.1 d (hs d hd), h.2.1, by omega⟩
theorem areDepsF_era {n : Int} {D : List (Int × Int)} (h : areDepsF n D = true) {i : Nat} (hi : i < D.length) : areDepsF n (eraD D i) = true :=
  areDepsF_sub h (fun _ hd => mem_eraD hd) (by rw [eraD_len hi]; omega)

end Go.Proofs.YtcenndlbhgfdfaaGreat
namespace Go.Proofs.YtcenndlbhgfdfaaGreat
open Go.RowKit
set_option linter.unusedVariables false
set_option maxRecDepth 100000

def addF (n : Int) (D A : List (Int × Int)) (d : Int × Int) : List (Int × Int) := if A.contains (reduceF n D d.1 d.2, d.2) then A else A ++ [(reduceF n D d.1 d.2, d.2)]
def dstF (n : Int) (D : List (Int × Int)) (k : Nat) : List (Int × Int) := (D.take k).foldl (addF n D) []
def pruneF (n : Int) : Nat → List (Int × Int) → Nat → List (Int × Int)
  | 0, A, _ => A
  | f + 1, A, i => if i < A.length then (if impliesDepF n (eraD A i) (nl A i) (nr A i) then pruneF n f (eraD A i) i else pruneF n f A (i + 1)) else A
def coverOfF (n : Int) (D : List (Int × Int)) : List (Int × Int) := if areDepsF n D then pruneF n (dstF n D D.length).length (dstF n D D.length) 0 else []
theorem dstF_succ {n : Int} {D : List (Int × Int)} {k : Nat} (hk : k < D.length) : dstF n D (k + 1) = addF n D (dstF n D k) (nl D k, nr D k) := by
  unfold dstF; rw [List.take_add_one, dnth_eq hk, List.foldl_append]; rfl
theorem dstF_len (n : Int) (D : List (Int × Int)) : ∀ k, k ≤ D.length → (dstF n D k).length ≤ k
  | 0, _ => by simp [dstF]
  | k + 1, hk => by
    rw [dstF_succ (by omega)]
    have := dstF_len n D k (by omega)
    unfold addF; split
    · omega
    · simp; omega
theorem dif_leC {x c : Int} (hx : St x) (hc : Co c) : dif x (one c) ≤ x := by
  obtain ⟨n, hn, rfl⟩ := st_nat hx; obtain ⟨k, hk, rfl⟩ := co_nat hc
  have h : ∀ n < 32, ∀ k < 5, dif (n : Nat) (one (k : Nat)) ≤ (n : Nat) := by decide +kernel
  exact h n hn k hk
theorem foldl_le {D : List (Int × Int)} {r : Int} : ∀ (C : List Int) (x : Int), (∀ c ∈ C, Co c) → St x → C.foldl (redStep D r) x ≤ x ∧ St (C.foldl (redStep D r) x)
  | [], x, _, hx => ⟨Int.le_refl x, hx⟩
  | c :: C, x, hC, hx => by
    have hc := hC c (List.mem_cons_self ..)
    have h1 : redStep D r x c ≤ x := by
      unfold redStep; split
      · exact dif_leC hx hc
      · exact Int.le_refl x
    have h2 := foldl_le (D := D) (r := r) C (redStep D r x c) (fun d hd => hC d (List.mem_cons_of_mem _ hd)) (redStep_st hx hc)
    exact ⟨Int.le_trans h2.1 h1, h2.2⟩
theorem five_co : ∀ c ∈ fiveI, Co c := by decide
theorem reduceF_dep {n l r : Int} {D : List (Int × Int)} (h : isDepF n l r = true) : isDepF n (reduceF n D l r) r = true := by
  unfold reduceF
  split
  · have hst := (isDepF_val h).1.1
    have := foldl_le (D := D) (r := r) fiveI l five_co hst
    simp only [isDepF, isAttr, Bool.and_eq_true, decide_eq_true_eq] at h ⊢
    unfold redF
    exact ⟨⟨⟨h.1.1.1, ⟨h.1.1.2.1.1, this.2.1⟩, Int.lt_of_le_of_lt this.1 h.1.1.2.2⟩, h.1.2⟩, h.2⟩
  · exact h
theorem dstF_dep {n : Int} {D : List (Int × Int)} (ha : areDepsF n D = true) : ∀ k, k ≤ D.length → ∀ d ∈ dstF n D k, isDepF n d.1 d.2 = true
  | 0, _, d, hd => by simp [dstF] at hd
  | k + 1, hk, d, hd => by
    rw [dstF_succ (by omega)] at hd
    unfold addF at hd
    split at hd
    · exact dstF_dep ha k (by omega) d hd
    · rcases List.mem_append.1 hd with hd | hd
      · exact dstF_dep ha k (by omega) d hd
      · simp at hd; subst hd
        exact reduceF_dep (areDepsF_mem ha (nth_mem (k := k) (by omega)))
theorem pruneF_end {n : Int} {A : List (Int × Int)} {i : Nat} (h : A.length ≤ i) (f : Nat) : pruneF n f A i = A := by
  cases f with
  | zero => rfl
  | succ f => unfold pruneF; rw [if_neg (by omega)]
theorem pruneF_del {n : Int} {A : List (Int × Int)} {i : Nat} (h : i < A.length) (hi : impliesDepF n (eraD A i) (nl A i) (nr A i) = true) : pruneF n (A.length - i) A i = pruneF n ((eraD A i).length - i) (eraD A i) i := by
  have e : A.length - i = ((eraD A i).length - i) + 1 := by rw [eraD_len h]; omega
  rw [e]; conv => lhs; unfold pruneF
  rw [if_pos h, hi]; rfl
theorem pruneF_keep {n : Int} {A : List (Int × Int)} {i : Nat} (h : i < A.length) (hi : impliesDepF n (eraD A i) (nl A i) (nr A i) = false) : pruneF n (A.length - i) A i = pruneF n (A.length - (i + 1)) A (i + 1) := by
  have e : A.length - i = (A.length - (i + 1)) + 1 := by omega
  rw [e]; conv => lhs; unfold pruneF
  rw [if_pos h, hi]; rfl
theorem contains_succ {A : List (Int × Int)} {k : Nat} (h : k < A.length) (d : Int × Int) : (A.take (k + 1)).contains d = ((A.take k).contains d || (nl A k == d.1 && nr A k == d.2)) := by
  rw [List.take_add_one, dnth_eq h, Bool.eq_iff_iff]
  simp only [Option.toList, List.contains_iff_mem, List.mem_append, List.mem_singleton, Bool.or_eq_true, Bool.and_eq_true, beq_iff_eq, Prod.ext_iff]
  constructor
  · rintro (h | ⟨h1, h2⟩)
    · exact .inl h
    · exact .inr ⟨h1.symm, h2.symm⟩
  · rintro (h | ⟨h1, h2⟩)
    · exact .inl h
    · exact .inr ⟨h1.symm, h2.symm⟩
theorem contains_at {A : List (Int × Int)} {k : Nat} (h : k < A.length) {l r : Int} (h1 : nl A k = l) (h2 : nr A k = r) : A.contains (l, r) = true := by
  subst h1; subst h2
  simp only [List.contains_iff_mem]; exact nth_mem h
def slen : Value → Nat
  | .slice _ n _ => n
  | _ => 0

end Go.Proofs.YtcenndlbhgfdfaaGreat
namespace Go.Proofs.YtcenndlbhgfdfaaGreat
open Go.RowKit
set_option linter.unusedVariables false
set_option maxRecDepth 100000

theorem OwnD.snoc {w : World} {base : Nat} {v : Value} {A : List (Int × Int)} {l r : Int} (h : w.ownsRow base 38 2 v (A.length + 1) (dcells A ++ [.int .i64 l, .int .i64 r])) : OwnD w base v (A ++ [(l, r)]) := OwnD.joined (B := [(l, r)]) h

end Go.Proofs.YtcenndlbhgfdfaaGreat
namespace Go.Proofs.YtcenndlbhgfdfaaGreat
open Go.RowKit
set_option linter.unusedVariables false
set_option maxRecDepth 100000

theorem grown_more {w a b : World} {g : Nat} {row : Option Nat} (hG : w.grownBy a (some g)) (hg : a.grownBy b row) (hr : ∀ k, row = some k → w.heap.size ≤ k) : w.grownBy b (some g) :=
  ⟨hg.os.trans hG.os, hg.tape.trans hG.tape, hg.output.trans hG.output, Nat.le_trans hG.size hg.size, fun i hi hne => (hg.block i (Nat.lt_of_lt_of_le hi hG.size) (fun e => by have := hr i e.symm; omega)).trans (hG.block i hi hne)⟩
theorem owns_cur {w w' : World} {B size n g : Nat} {e : TypeId} {v : Value} {xs : List Value} (h : w.ownsRow B e size v n xs) (hg : w.grownBy w' (some g)) (hB : g < B) : w'.ownsRow B e size v n xs :=
  World.ownsRow.kept h hg (.inr fun e => by have := (World.ownsRow.lt h g e).1; omega)
theorem OwnD.cur {w w' : World} {B g : Nat} {v : Value} {D : List (Int × Int)} (h : OwnD w B v D) (hg : w.grownBy w' (some g)) (hB : g < B) : OwnD w' B v D := owns_cur h hg hB
/-- What the cursor has turned lies behind the base. -/
theorem below_cur {w a b : World} {g : Nat} (hb : Below w.heap.size w a) (hg : a.grownBy b (some g)) (hB : w.heap.size ≤ g) : Below w.heap.size w b := hb.grown hg hb.size (fun k e => by injection e with e; omega)
end Go.Proofs.YtcenndlbhgfdfaaGreat
namespace Go.Proofs.YtcenndlbhgfdfaaGreat
open Go.RowKit
set_option linter.unusedVariables false
set_option maxRecDepth 100000

theorem OwnI.cur {w w' : World} {B g : Nat} {v : Value} {L : List Int} (h : OwnI w B v L) (hg : w.grownBy w' (some g)) (hB : g < B) : OwnI w' B v L := owns_cur h hg hB
theorem OwnRows.cur {w w' : World} {B g : Nat} {v : Value} {xs : List Value} {R : List (List Int)} (h : OwnRows w B v xs R) (hg : w.grownBy w' (some g)) (hB : g < B) : OwnRows w' B v xs R :=
  ⟨h.len, owns_cur h.outer hg hB, fun j hj => by
    obtain ⟨o, c, h1, h2, h3⟩ := h.rows j hj
    exact ⟨o, c, h1, h2.cur hg hB, h3⟩, h.pair⟩
set_option maxHeartbeats 1600000 in
theorem c_l3RandomRow (g N : Nat) (hN : N ≤ 5) (wide : Int) (hw : wide ≤ 256) (w : World) (hc : Cur w g) :
    Calls Tryz.prog 114 #[.pointer (some ⟨g, 0, none⟩), .int .i64 N, .int .i64 wide] w fun e w' => ∃ o c L, e = .returned (.slice o (L.length : Nat) c) ∧ OwnI w' w.heap.size (.slice o L.length c) L ∧ L.length = N ∧ Cur w' g ∧ w.grownBy w' (some g) := by
  obtain ⟨i0, hi0, hz0, hz1, hz2⟩ := info_parts info_int
  have hlt := hc.lt
  have hI := OwnI.empty w w.heap.size (Nat.le_refl _)
  have hG := grown_of_below ((Below.refl w.heap.size w).alloc (Nat.le_refl _) (.cells #[] 3)) (some g)
  replace hc := cur_alloc hc (.cells #[] 3)
  go_enter Tryz.func114, Tryz.ntmps114
  go_wp2_with fail
  go_loopw [7, 8] (fun v i wr => ∃ (k : Nat) (L : List Int), i = .int .i64 k ∧ L.length = k ∧ k ≤ N ∧ OwnI wr w.heap.size v L ∧ Cur wr g ∧ w.grownBy wr (some g)) (fun _ i _ => N - (intOf i).toNat)
  case atStart => exact ⟨0, [], rfl, rfl, Nat.zero_le _, hI, hc, hG⟩
  case round =>
    clear hI hc hG
    obtain ⟨k, L, rfl, hLk, hk, hI, hc, hG⟩ := hrel
    have hi := hi0
    have HLK : Hid (L.length = k) := hLk
    have HL5 : L.length ≤ 5 := by omega
    clear hLk
    by_cases hlt0 : k < N
    · go_wp2_with fail
      refine (c_l1Below g wide hw _ hc).mono ?_
      rintro e w2 ⟨x, rfl, _, _, _, hc2, hg⟩
      replace hI := hI.cur hg hlt
      replace hG := grown_trans hG hg
      clear hc hg
      go_wp2_with fail
      refine (c_l1Once g 12 (by omega) _ hc2).mono ?_
      rintro e w3 ⟨t, rfl, hc3, hg⟩
      replace hI := hI.cur hg hlt
      replace hG := grown_trans hG hg
      clear hc2 hg
      cases t
      · go_wp2_with (first | (at_builtin; refine wpList_append_own _ rfl _ _ 50 rfl w.heap.size 3 i0 (.int .i64 0) 1 8 Tryz.underlying50 hi hz0 hz1 hz2 rfl (by decide) _ _ _ rfl (World.ownsRow.alloc hI _) _ 1 1 [.int .i64 (x)] rfl rfl (by intro j u hj; match j, hj with | 0, hj => simp at hj; subst hj; simp [Addr.add]) (by intro u hu; simp at hu; subst hu; rfl) (by unfold maxLen; omega) (by omega) (by have := hG.size; simp; omega) ?_; intro v' w9 hown hgrow _; have hc9 := Cur.grown (cur_alloc hc3 _) hgrow (fun k e => by have := (World.ownsRow.lt hI k e).1; omega); have hG9 := grown_more (grown_trans hG (grown_of_below ((Below.refl _ _).alloc (Nat.le_refl _) _) _)) hgrow (fun k e => (World.ownsRow.lt hI k e).1); replace hI := OwnI.snoc hown; clear hown hgrow hG hc3) | fail)
        go_roundw
        case rel => exact ⟨k + 1, L ++ [x], by go_num, by simp; exact HLK.out, by omega, hI, hc9, hG9⟩
        case measure => simp [intOf]; omega
      · go_wp2_with (first | (at_builtin; refine wpList_append_own _ rfl _ _ 50 rfl w.heap.size 3 i0 (.int .i64 0) 1 8 Tryz.underlying50 hi hz0 hz1 hz2 rfl (by decide) _ _ _ rfl (World.ownsRow.alloc hI _) _ 1 1 [.int .i64 (-1)] rfl rfl (by intro j u hj; match j, hj with | 0, hj => simp at hj; subst hj; simp [Addr.add]) (by intro u hu; simp at hu; subst hu; rfl) (by unfold maxLen; omega) (by omega) (by have := hG.size; simp; omega) ?_; intro v' w9 hown hgrow _; have hc9 := Cur.grown (cur_alloc hc3 _) hgrow (fun k e => by have := (World.ownsRow.lt hI k e).1; omega); have hG9 := grown_more (grown_trans hG (grown_of_below ((Below.refl _ _).alloc (Nat.le_refl _) _) _)) hgrow (fun k e => (World.ownsRow.lt hI k e).1); replace hI := OwnI.snoc hown; clear hown hgrow hG hc3) | fail)
        go_roundw
        case rel => exact ⟨k + 1, L ++ [-1], by go_num, by simp; exact HLK.out, by omega, hI, hc9, hG9⟩
        case measure => simp [intOf]; omega
    · have HK : Hid (L.length = N) := by show L.length = N; have := HLK.out; omega
      obtain ⟨o, c, rfl⟩ := hI.shape
      go_wp2
      go_ret
      exact ⟨o, c, L, rfl, hI, HK.out, hc, hG⟩
end Go.Proofs.YtcenndlbhgfdfaaGreat
namespace Go.Proofs.YtcenndlbhgfdfaaGreat
open Go.RowKit
set_option linter.unusedVariables false
set_option maxRecDepth 100000

def sameB (R : List (List Int)) (m s : Int) (i k : Nat) : Bool := ins s (agreeF m (row R i) (row R k))
def tkQ (q : Nat → Nat → Bool) (i k : Nat) : Bool := (List.range i).any fun j => decide (j < k) && q j k
def clsTo (q : Nat → Nat → Bool) (i t : Nat) : List Int := (i : Int) :: (((List.range t).filter fun k => decide (i < k) && q i k).map fun (k : Nat) => (k : Int))
def headQ (q : Nat → Nat → Bool) (N j : Nat) : Bool := !tkQ q j j && decide (1 < (clsTo q j N).length)
def ptnQ (q : Nat → Nat → Bool) (N i : Nat) : List (List Int) := ((List.range i).filter (headQ q N)).map fun j => clsTo q j N
/-- What lies in one class with the same row lies in one class. -/
structure Per (q : Nat → Nat → Bool) (N : Nat) : Prop where
  tr : ∀ i j k, i < N → j < N → q i j = true → q j k = true → q i k = true
  eu : ∀ i j k, i < N → j < N → q j k = true → q i k = true → q j i = true
def ptnOk (n : Int) (R : List (List Int)) (m s : Int) : Bool := (isTabF n R && modeF m) && isAttr n s
def ptnF (n : Int) (R : List (List Int)) (m s : Int) : List (List Int) := if ptnOk n R m s then ptnQ (sameB R m s) R.length R.length else []

theorem eqCell_iff {m a b : Int} : eqCellF m a b = true ↔ modeF m = true ∧ a = b ∧ (m = 0 ∨ a ≠ -1) := by
  unfold eqCellF; simp
theorem eqCell_trans {m a b c : Int} (h : eqCellF m a b = true) (k : eqCellF m b c = true) : eqCellF m a c = true := by
  rw [eqCell_iff] at *
  obtain ⟨h1, rfl, h3⟩ := h
  exact ⟨h1, k.2.1, h3⟩
theorem eqCell_symm {m a b : Int} (h : eqCellF m a b = true) : eqCellF m b a = true := by
  rw [eqCell_iff] at *
  obtain ⟨h1, rfl, h3⟩ := h
  exact ⟨h1, rfl, h3⟩
theorem eqCell_euc {m a b c : Int} (h : eqCellF m a b = true) (k : eqCellF m c b = true) : eqCellF m a c = true := eqCell_trans h (eqCell_symm k)
theorem hasc_agreeTo {m : Int} {A B : List Int} {c : Int} (hc : Co c) : ∀ k, k ≤ 5 → hasc ((List.range k).foldl (agreeStep m A B) 0) c = (decide (c.toNat < k) && eqCellF m (nth A c.toNat) (nth B c.toNat))
  | 0, _ => by
    obtain ⟨j, hj, rfl⟩ := co_nat hc
    have h : ∀ j < 5, hasc 0 ((j : Nat) : Int) = false := by decide +kernel
    simp [h j hj]
  | k + 1, hk => by
    have ih := hasc_agreeTo (m := m) (A := A) (B := B) hc k (by omega)
    have hst : ∀ k, k ≤ 5 → St ((List.range k).foldl (agreeStep m A B) 0) := by
      intro k
      induction k with
      | zero => intro _; exact ⟨by simp, by simp⟩
      | succ k ih => intro hk; rw [range_succ_fold]; exact agreeStep_st (ih (by omega)) (by omega)
    rw [range_succ_fold]
    generalize hx : (List.range k).foldl (agreeStep m A B) 0 = x at *
    have hs : St x := by rw [← hx]; exact hst k (by omega)
    have hck : Co (k : Int) := ⟨by omega, by omega⟩
    have hc0 := hc.1
    unfold agreeStep
    by_cases e : c.toNat = k
    · have ec : c = (k : Int) := by omega
      subst ec
      cases he : eqCellF m (nth A k) (nth B k)
      · simp [ih, he]
      · simp only [if_true]
        rw [hasc_uni hs (one_st hck) hck, hasc_one hck hck]
        simp [he]
    · have e1 : decide (c.toNat < k + 1) = decide (c.toNat < k) := by rw [decide_eq_decide]; omega
      rw [e1, ← ih]
      split
      · rw [hasc_uni hs (one_st hck) hc, hasc_one hck hc]
        have : ((k : Int) == c) = false := by simp; omega
        rw [this, Bool.or_false]
      · rfl
theorem hasc_agree {m : Int} {A B : List Int} {c : Int} (hc : Co c) (h : A.length ≤ 5) : hasc (agreeF m A B) c = (decide (c.toNat < A.length) && eqCellF m (nth A c.toNat) (nth B c.toNat)) := hasc_agreeTo hc _ h
theorem same_iff {n : Int} {R : List (List Int)} {m s : Int} {i k : Nat} (ht : isTabF n R = true) (hs : St s) (hi : i < R.length) :
    sameB R m s i k = true ↔ ∀ c, Co c → hasc s c = true → c.toNat < n.toNat ∧ eqCellF m (nth (row R i) c.toNat) (nth (row R k) c.toNat) = true := by
  obtain ⟨hn1, hn5, _, hl⟩ := isTab_of ht
  have li := hl i hi
  have hA : (row R i).length ≤ 5 := by omega
  unfold sameB
  rw [ins_iff hs (agreeF_st hA)]
  refine ⟨fun h c hc h1 => ?_, fun h c hc h1 => ?_⟩
  · have h2 := h c hc h1
    rw [hasc_agree hc hA] at h2
    simp only [Bool.and_eq_true, decide_eq_true_eq] at h2
    exact ⟨by omega, h2.2⟩
  · obtain ⟨h2, h3⟩ := h c hc h1
    rw [hasc_agree hc hA, h3, decide_eq_true (show c.toNat < (row R i).length by omega)]; rfl
theorem same_trans {n : Int} {R : List (List Int)} {m s : Int} {i j k : Nat} (ht : isTabF n R = true) (hs : St s) (hi : i < R.length) (hj : j < R.length) (h1 : sameB R m s i j = true) (h2 : sameB R m s j k = true) : sameB R m s i k = true := by
  have q1 := (same_iff ht hs hi).1 h1
  have q2 := (same_iff ht hs hj).1 h2
  refine (same_iff ht hs hi).2 fun c hc h => ?_
  exact ⟨(q1 c hc h).1, eqCell_trans (q1 c hc h).2 (q2 c hc h).2⟩
theorem same_euc {n : Int} {R : List (List Int)} {m s : Int} {i j k : Nat} (ht : isTabF n R = true) (hs : St s) (hi : i < R.length) (hj : j < R.length) (h1 : sameB R m s j k = true) (h2 : sameB R m s i k = true) : sameB R m s j i = true := by
  have q1 := (same_iff ht hs hj).1 h1
  have q2 := (same_iff ht hs hi).1 h2
  refine (same_iff ht hs hj).2 fun c hc h => ?_
  exact ⟨(q1 c hc h).1, eqCell_euc (q1 c hc h).2 (q2 c hc h).2⟩
theorem same_per {n : Int} {R : List (List Int)} {m s : Int} (ht : isTabF n R = true) (hs : St s) : Per (sameB R m s) R.length :=
  ⟨fun _ _ _ hi hj => same_trans ht hs hi hj, fun _ _ _ hi hj => same_euc ht hs hi hj⟩
theorem tk_succ (q : Nat → Nat → Bool) (i k : Nat) : tkQ q (i + 1) k = (tkQ q i k || (decide (i < k) && q i k)) := by
  unfold tkQ; rw [List.range_succ, List.any_append]; simp
theorem tk_iff {q : Nat → Nat → Bool} {i k : Nat} : tkQ q i k = true ↔ ∃ j, j < i ∧ j < k ∧ q j k = true := by
  unfold tkQ
  rw [List.any_eq_true]
  simp only [List.mem_range, Bool.and_eq_true, decide_eq_true_eq]
theorem tk_taken {q : Nat → Nat → Bool} {N i : Nat} (hp : Per q N) (hi : i < N) (h : tkQ q i i = true) (k : Nat) : tkQ q (i + 1) k = tkQ q i k := by
  rw [tk_succ]
  cases e : (decide (i < k) && q i k)
  · simp
  · simp only [Bool.and_eq_true, decide_eq_true_eq] at e
    obtain ⟨j, hj, _, h1⟩ := tk_iff.1 h
    have : tkQ q i k = true := tk_iff.2 ⟨j, hj, by omega, hp.tr _ _ _ (by omega) hi h1 e.2⟩
    rw [this]; rfl
theorem tk_free {q : Nat → Nat → Bool} {N i k : Nat} (hp : Per q N) (hi : i < N) (h : tkQ q i i = false) (hk : q i k = true) : tkQ q i k = false := by
  cases e : tkQ q i k
  · rfl
  · obtain ⟨j, hj, _, h1⟩ := tk_iff.1 e
    have : tkQ q i i = true := tk_iff.2 ⟨j, hj, hj, hp.eu _ _ _ hi (by omega) h1 hk⟩
    rw [h] at this; cases this
theorem cls_succ (q : Nat → Nat → Bool) (i t : Nat) : clsTo q i (t + 1) = clsTo q i t ++ (if decide (i < t) && q i t then [(t : Int)] else []) := by
  unfold clsTo
  rw [List.range_succ, List.filter_append, List.map_append, List.cons_append]
  congr 2
  cases h : (decide (i < t) && q i t) <;> simp [h]
theorem cls_first (q : Nat → Nat → Bool) (i : Nat) : clsTo q i (i + 1) = [(i : Int)] := by
  unfold clsTo
  have : (List.range (i + 1)).filter (fun k => decide (i < k) && q i k) = [] := by
    rw [List.filter_eq_nil_iff]
    intro k hk
    have := List.mem_range.1 hk
    rw [decide_eq_false (show ¬ i < k by omega)]; simp
  rw [this]; rfl
theorem cls_len (q : Nat → Nat → Bool) (i t : Nat) : (clsTo q i t).length ≤ t + 1 := by
  unfold clsTo
  rw [List.length_cons, List.length_map]
  have := List.length_filter_le (fun k => decide (i < k) && q i k) (List.range t)
  rw [List.length_range] at this
  omega
theorem cls_mem {q : Nat → Nat → Bool} {i t : Nat} {x : Int} : x ∈ clsTo q i t ↔ x = i ∨ ∃ k : Nat, x = k ∧ k < t ∧ i < k ∧ q i k = true := by
  unfold clsTo
  rw [List.mem_cons, List.mem_map]
  simp only [List.mem_filter, List.mem_range, Bool.and_eq_true, decide_eq_true_eq]
  constructor
  · rintro (h | ⟨k, ⟨h1, h2, h3⟩, rfl⟩)
    · exact .inl h
    · exact .inr ⟨k, rfl, h1, h2, h3⟩
  · rintro (h | ⟨k, rfl, h1, h2, h3⟩)
    · exact .inl h
    · exact .inr ⟨k, ⟨h1, h2, h3⟩, rfl⟩
theorem ptn_succ (q : Nat → Nat → Bool) (N i : Nat) : ptnQ q N (i + 1) = ptnQ q N i ++ (if headQ q N i then [clsTo q i N] else []) := by
  unfold ptnQ
  rw [List.range_succ, List.filter_append, List.map_append]
  cases h : headQ q N i <;> simp [h]
theorem ptn_len (q : Nat → Nat → Bool) (N i : Nat) : (ptnQ q N i).length ≤ i := by
  unfold ptnQ
  rw [List.length_map]
  have := List.length_filter_le (headQ q N) (List.range i)
  rw [List.length_range] at this
  omega
theorem ptn_mem {q : Nat → Nat → Bool} {N i : Nat} {C : List Int} : C ∈ ptnQ q N i ↔ ∃ j, j < i ∧ headQ q N j = true ∧ C = clsTo q j N := by
  unfold ptnQ
  rw [List.mem_map]
  simp only [List.mem_filter, List.mem_range]
  constructor
  · rintro ⟨j, ⟨h1, h2⟩, rfl⟩; exact ⟨j, h1, h2, rfl⟩
  · rintro ⟨j, h1, h2, rfl⟩; exact ⟨j, ⟨h1, h2⟩, rfl⟩
theorem ptn_row {q : Nat → Nat → Bool} {N i j : Nat} (hj : j < (ptnQ q N i).length) : (row (ptnQ q N i) j).length ≤ N + 1 := by
  obtain ⟨k, _, _, e⟩ := ptn_mem.1 (row_mem hj)
  rw [e]; exact cls_len ..
theorem ptn_flat {q : Nat → Nat → Bool} {N : Nat} (hp : Per q N) {i k : Nat} (hik : i ≤ k) (hk : k < N) : (k : Int) ∈ (ptnQ q N i).flatten ↔ tkQ q i k = true := by
  rw [List.mem_flatten]
  constructor
  · rintro ⟨C, hC, hx⟩
    obtain ⟨j, hj, _, rfl⟩ := ptn_mem.1 hC
    rcases cls_mem.1 hx with e | ⟨t, e, _, h2, h3⟩
    · omega
    · have : t = k := by omega
      subst this
      exact tk_iff.2 ⟨j, hj, h2, h3⟩
  · intro h
    have hex : ∃ j, j < i ∧ j < k ∧ q j k = true := tk_iff.1 h
    have hmin : ∃ j, (j < i ∧ j < k ∧ q j k = true) ∧ ∀ t, t < j → ¬ (t < i ∧ t < k ∧ q t k = true) := by
      obtain ⟨j, hj⟩ := hex
      induction j using Nat.strongRecOn with
      | _ j ih =>
        by_cases hq : ∃ t, t < j ∧ (t < i ∧ t < k ∧ q t k = true)
        · obtain ⟨t, h1, h2⟩ := hq; exact ih t h1 h2
        · exact ⟨j, hj, fun t h1 h2 => hq ⟨t, h1, h2⟩⟩
    obtain ⟨j, ⟨h1, h2, h3⟩, hlow⟩ := hmin
    have hm : (k : Int) ∈ clsTo q j N := cls_mem.2 (.inr ⟨k, rfl, hk, h2, h3⟩)
    refine ⟨clsTo q j N, ptn_mem.2 ⟨j, h1, ?_, rfl⟩, hm⟩
    unfold headQ
    have e1 : tkQ q j j = false := by
      cases e : tkQ q j j
      · rfl
      · obtain ⟨t, h4, _, h5⟩ := tk_iff.1 e
        exact absurd ⟨by omega, by omega, hp.tr _ _ _ (by omega) (by omega) h5 h3⟩ (hlow t h4)
    rw [e1]
    have : 1 < (clsTo q j N).length := by
      have hm2 := hm
      unfold clsTo at hm2 ⊢
      rw [List.mem_cons] at hm2
      rcases hm2 with e | hm2
      · omega
      · rw [List.length_cons]
        have := List.length_pos_of_mem hm2
        omega
    simp [this]
theorem flat_len {q : Nat → Nat → Bool} {N : Nat} (hN : N ≤ 40) (i : Nat) : ((ptnQ q N i).flatten).length ≤ 41 * i := by
  induction i with
  | zero => simp [ptnQ]
  | succ i ih =>
    rw [ptn_succ, List.flatten_append, List.length_append]
    have h2 := cls_len q i N
    have h3 : ((if headQ q N i then [clsTo q i N] else []).flatten).length ≤ 41 := by
      split
      · simp only [List.flatten_cons, List.flatten_nil, List.append_nil]; omega
      · simp
    omega
end Go.Proofs.YtcenndlbhgfdfaaGreat
namespace Go.Proofs.YtcenndlbhgfdfaaGreat
open Go.RowKit
set_option linter.unusedVariables false
set_option maxRecDepth 100000

theorem c_equalIn (m s : Int) (oa ob) (ca cb : Nat) (A B : List Int) (w : World) (hA : IntsAt w oa A) (hB : IntsAt w ob B) (hl : A.length ≤ 5) (hAB : B.length = A.length) :
    Ans Tryz.prog 126 #[.int .i64 m, .slice oa A.length ca, .slice ob B.length cb, .int .i64 s] w (.bool (ins s (agreeF m A B))) := by
  unfold Ans
  have hb := Below.refl w.heap.size w
  have HA : Hid (B.length = A.length) := hAB
  clear hAB
  go_enter Tryz.func126, Tryz.ntmps126
  go_wp2_with (first | (go_at_call 107; refine Calls.mono (c_agree m _ _ _ _ A B _ hA hB hl HA.out) ?_; rintro e w1 ⟨rfl, hbn⟩; replace hb := bel_to (w := w) (by first | exact hb | exact hb.alloc hb.size _ | exact (hb.alloc hb.size _).alloc (Nat.le_trans hb.size (by simp)) _ | exact hb.setCell (by simp [hb.size]) _) hbn; clear hbn) | (go_at_call 89; refine Calls.mono (c_inside _ _ _) ?_; rintro e w1 ⟨rfl, hbn⟩; replace hb := bel_to (w := w) (by first | exact hb | exact hb.alloc hb.size _ | exact (hb.alloc hb.size _).alloc (Nat.le_trans hb.size (by simp)) _ | exact hb.setCell (by simp [hb.size]) _) hbn; clear hbn))
  go_ret
  exact ⟨rfl, hb⟩
theorem c_clS (n : Int) (oa) (cap : Nat) (R : List (List Int)) (m s : Int) (i k : Nat) (X Y Z : Nat) (w : World) (hR : RowsAt w oa R) (ht : isTabF n R = true) (hi : i < R.length) (hk : k < R.length)
    (m0 : w.cell? ⟨X, 0, none⟩ = some (.int .i64 m)) (a1 : w.cell? ⟨Y, 1, none⟩ = some (.slice oa R.length cap)) (s0 : w.cell? ⟨Z, 0, none⟩ = some (.int .i64 s)) :
    Ans Tryz.prog 125 #[.int .i64 i, .int .i64 k, .pointer (some ⟨X, 0, none⟩), .pointer (some ⟨Y, 0, none⟩), .pointer (some ⟨Z, 0, none⟩)] w (.bool (sameB R m s i k)) := by
  unfold Ans
  obtain ⟨hn1, hn5, hr40, hlen⟩ := isTab_of ht
  have hb := Below.refl w.heap.size w
  obtain ⟨b, off, rfl, hbs, hc⟩ := hR.at_ (by omega)
  obtain ⟨o1, c1, h1, r1⟩ := hc i hi
  obtain ⟨o2, c2, h2, r2⟩ := hc k hk
  have l1 : (row R i).length ≤ 5 := by have := hlen i hi; omega
  have HL : Hid ((row R k).length = (row R i).length) := by have := hlen i hi; have := hlen k hk; show (row R k).length = (row R i).length; omega
  have hx1 := fun (x : After w) => r1.keep x.bel
  have hx2 := fun (x : After w) => r2.keep x.bel
  have HV : Hid (sameB R m s i k = ins s (agreeF m (row R i) (row R k))) := rfl
  clear hc hlen ht hR
  generalize row R i = A at *
  generalize row R k = B at *
  go_enter Tryz.func125, Tryz.ntmps125
  go_wp2_with fail
  (refine wp_region_after (by kernel_rfl) (by kernel_rfl) ?_; have q_m0 := fun (x : After _) => cell_keep m0 x.bel; have q_a1 := fun (x : After _) => cell_keep a1 x.bel; have q_s0 := fun (x : After _) => cell_keep s0 x.bel; have q_h1 := fun (x : After _) => cell_keep h1 x.bel; have q_h2 := fun (x : After _) => cell_keep h2 x.bel; (repeat (go_big_quiet_step ((first | (go_at_call 126; exact Ans.after (c_equalIn m s _ _ _ _ A B _ (hx1 _) (hx2 _) l1 HL.out)))))); clear q_m0; clear q_a1; clear q_s0; clear q_h1; clear q_h2; refine wpQuiet_nil ?_; rintro _ ⟨⟨w1, hbn⟩, rfl⟩; (try simp only [After.w]); replace m0 := cell_keep m0 hbn; replace a1 := cell_keep a1 hbn; replace s0 := cell_keep s0 hbn; replace h1 := cell_keep h1 hbn; replace h2 := cell_keep h2 hbn; replace hb := bel_to (w := w) (by first | exact hb | exact hb.alloc hb.size _ | exact (hb.alloc hb.size _).alloc (Nat.le_trans hb.size (by simp)) _ | exact hb.setCell (by simp [hb.size]) _) hbn; clear hbn)
  go_wp2
  go_ret
  exact ⟨ret_bool HV.out.symm, hb⟩

set_option maxHeartbeats 3200000 in
theorem c_classesOf_S (N : Nat) (hN : N ≤ 40) (e0 e1 e2 : Value) (q : Nat → Nat → Bool) (hp : Per q N) (w : World)
    (hcl : ∀ (W : World) (i k : Nat), i < k → k < N → Below w.heap.size w W → Ans Tryz.prog 125 #[.int .i64 i, .int .i64 k, e0, e1, e2] W (.bool (q i k))) :
    Calls Tryz.prog 124 #[.int .i64 N, .func (.func 125) #[] #[e0, e1, e2]] w fun e w' => ∃ v xs, e = .returned v ∧ OwnRows w' w.heap.size v xs (ptnQ q N N) ∧ Below w.heap.size w w' := by
  obtain ⟨i0, hi, hz0, hz1, hz2⟩ := info_parts info_int
  obtain ⟨j0, hj, hy0, hy1, hy2⟩ := info_parts info_ints
  obtain ⟨b0, hbo, hx0, hx1, hx2⟩ := info_parts info_bool
  have hb := (Below.refl w.heap.size w).alloc (Nat.le_refl _) (.cells #[] 50)
  have hC := OwnRows.empty w w.heap.size (Nat.le_refl _)
  have HQ : Hid (∀ (W : World) (i k : Nat), i < k → k < N → Below w.heap.size w W → Ans Tryz.prog 125 #[.int .i64 i, .int .i64 k, e0, e1, e2] W (.bool (q i k))) := hcl
  have HP : Hid (Per q N) := hp
  clear hcl hp
  go_enter Tryz.func124, Tryz.ntmps124
  have oldC := hC
  go_wp2_with (first | (at_make; refine wpList_make_full _ rfl _ _ 123 rfl (w.heap.size + 1) 4 b0 (.bool false) 1 Tryz.underlying123 hbo hx0 hx1 .i64 .i64 _ _ N rfl rfl rfl rfl (by rw [hx2]; omega) (by unfold maxLen; omega) (by simp) ?_; intro w1 hown hgrow))
  have hT := ownB_made hown
  have ap_CT : ApartR (.slice (some ⟨w.heap.size, 0, none⟩) 0 0) [] (.slice (some ⟨w.heap.size + 1, 0, none⟩) N N) := ⟨.inr (by simp [Value.ownBlock]), fun y hy => by cases hy⟩
  have hbg : Below (w.alloc (.cells #[] 50)).heap.size (w.alloc (.cells #[] 50)) w1 := below_grown hgrow (Nat.le_refl _) (by simp)
  replace hC := hC.keep hbg
  replace hb := bel_to hb hbg
  replace hT : OwnB w1 w.heap.size (.slice (some ⟨w.heap.size + 1, 0, none⟩) N N) (List.replicate N false) := OwnB.based (by simpa only [World.size_alloc] using hT) (Nat.le_succ w.heap.size)
  clear hown hgrow hbg hbo hx0 hx1 hx2 b0 oldC
  go_loopw [5, 7] (fun vC i wr => ∃ (i' : Nat) (xs : List Value) (T : List Bool), i = .int .i64 i' ∧ i' ≤ N ∧ OwnRows wr w.heap.size vC xs (ptnQ q N i') ∧ T.length = N ∧ (∀ k, i' ≤ k → k < N → bth T k = tkQ q i' k) ∧ OwnB wr w.heap.size (.slice (some ⟨w.heap.size + 1, 0, none⟩) N N) T ∧ ApartR vC xs (.slice (some ⟨w.heap.size + 1, 0, none⟩) N N) ∧ Below w.heap.size w wr) (fun _ i _ => N - (intOf i).toNat)
  case atStart => exact ⟨0, [], List.replicate N false, rfl, Nat.zero_le _, hC, by simp, fun k _ _ => by rw [bth_replicate]; simp [tkQ], hT, ap_CT, hb⟩
  case round =>
    clear hC hT ap_CT hb
    obtain ⟨i, xs, T, rfl, hi', hC, hTl, hTk, hT, ap_CT, hb⟩ := hrel
    have HTl : Hid (T.length = N) := hTl
    have HTk : Hid (∀ k, i ≤ k → k < N → bth T k = tkQ q i k) := hTk
    have hpl := ptn_len q N i
    have hxl := hC.len
    have hxs : xs.length ≤ 40 := by omega
    clear hTl hTk
    by_cases hlt : i < N
    · have hc1 := hT.cell HTl.out.symm i hlt
      have hc6 := hc1.1
      have hc7 := hc1.2
      have HTi : Hid (bth T i = tkQ q i i) := HTk.out i (Nat.le_refl _) hlt
      clear hc1 hxl
      cases hti : tkQ q i i
      · have HS : Hid (ptnQ q N (i + 1) = ptnQ q N i ++ (if decide (1 < (clsTo q i N).length) then [clsTo q i N] else [])) := by
          show ptnQ q N (i + 1) = _
          rw [ptn_succ]; unfold headQ; rw [hti]; rfl
        have HF : Hid (clsTo q i (i + 1) = [(i : Int)]) := cls_first q i
        generalize ptnQ q N i = P at *
        rw [HTi.out, hti] at hc6
        have hI := OwnI.single wr w.heap.size hb.size (i : Int)
        have hIf := OwnI.single wr wr.heap.size (Nat.le_refl _) (i : Int)
        have ap_CI := hC.fresh hIf
        have ap_TI := apart_old hT hIf
        replace hC := hC.keep ((Below.refl wr.heap.size wr).alloc (Nat.le_refl _) (.cells #[.int .i64 (i : Int)] 3))
        replace hT := hT.keep ((Below.refl wr.heap.size wr).alloc (Nat.le_refl _) (.cells #[.int .i64 (i : Int)] 3))
        replace hb := hb.alloc hb.size (.cells #[.int .i64 (i : Int)] 3)
        clear hIf
        go_wp2
        go_loopw [8, 9] (fun vI k' wr => ∃ (k : Nat) (T : List Bool), k' = .int .i64 k ∧ i < k ∧ k ≤ N ∧ OwnI wr w.heap.size vI (clsTo q i k) ∧ OwnRows wr w.heap.size u5 xs P ∧ T.length = N ∧ (∀ t, i < t → t < N → bth T t = if t < k then tkQ q (i + 1) t else tkQ q i t) ∧ OwnB wr w.heap.size (.slice (some ⟨w.heap.size + 1, 0, none⟩) N N) T ∧ ApartR u5 xs (.slice (some ⟨w.heap.size + 1, 0, none⟩) N N) ∧ ApartR u5 xs vI ∧ Apart (.slice (some ⟨w.heap.size + 1, 0, none⟩) N N) vI ∧ Below w.heap.size w wr) (fun _ k _ => N - (intOf k).toNat)
        case atStart => exact ⟨i + 1, T, by go_num, by omega, by omega, by rw [HF.out]; exact hI, hC, HTl.out, fun t h1 h2 => by rw [HTk.out t (by omega) h2, if_neg (by omega)], hT, ap_CT, ap_CI, ap_TI, hb⟩
        case round =>
          clear hC hT hI ap_CT ap_CI ap_TI hb hc6 hc7 HTl HTk HTi HF
          obtain ⟨k, T, rfl, hik, hk, hI, hC, hTl, hTk, hT, ap_CT, ap_CI, ap_TI, hb⟩ := hrel
          have HTl : Hid (T.length = N) := hTl
          have HTk : Hid (∀ t, i < t → t < N → bth T t = if t < k then tkQ q (i + 1) t else tkQ q i t) := hTk
          have hcl := cls_len q i k
          clear hTl hTk
          by_cases hlk : k < N
          · have HCS : Hid (clsTo q i (k + 1) = clsTo q i k ++ (if q i k then [(k : Int)] else [])) := by
              show clsTo q i (k + 1) = _
              rw [cls_succ, decide_eq_true hik]; rfl
            have hc1 := hT.cell HTl.out.symm k hlk
            have hc6 := hc1.1
            have hc7 := hc1.2
            have HTi : Hid (bth T k = tkQ q i k) := by show bth T k = _; rw [HTk.out k hik hlk, if_neg (by omega)]
            have HSk : Hid (tkQ q (i + 1) k = (tkQ q i k || q i k)) := by show tkQ q (i + 1) k = _; rw [tk_succ, decide_eq_true hik]; rfl
            clear hc1
            generalize clsTo q i k = L at *
            cases hqk : q i k
            · have HN : Hid (∀ t, i < t → t < N → bth T t = if t < k + 1 then tkQ q (i + 1) t else tkQ q i t) := fun t h1 h2 => by
                rw [HTk.out t h1 h2]
                by_cases e : t = k
                · subst e; rw [if_neg (by omega), if_pos (by omega), HSk.out, hqk, Bool.or_false]
                · by_cases h' : t < k
                  · rw [if_pos h', if_pos (by omega)]
                  · rw [if_neg h', if_neg (by omega)]
              cases htk : tkQ q i k
              · rw [HTi.out, htk] at hc6
                go_wp2_with (first | (go_at_call 125; refine Calls.mono (Ans.eqb (HQ.out _ i k hik hlk hb) hqk) ?_; rintro e w1 ⟨rfl, hbn⟩; replace hT := hT.keep hbn; replace hC := hC.keep hbn; replace hI := hI.keep hbn; replace hb := bel_to hb hbn; clear hbn) | fail)
                go_roundw
                case rel => exact ⟨k + 1, T, by go_num, by omega, by omega, by rw [HCS.out, hqk]; simpa using hI, hC, HTl.out, HN.out, hT, ap_CT, ap_CI, ap_TI, hb⟩
                case measure => simp [intOf]; omega
              · rw [HTi.out, htk] at hc6
                go_wp2_with (first | (go_at_call 125; refine Calls.mono (Ans.eqb (HQ.out _ i k hik hlk hb) hqk) ?_; rintro e w1 ⟨rfl, hbn⟩; replace hT := hT.keep hbn; replace hC := hC.keep hbn; replace hI := hI.keep hbn; replace hb := bel_to hb hbn; clear hbn) | fail)
                go_roundw
                case rel => exact ⟨k + 1, T, by go_num, by omega, by omega, by rw [HCS.out, hqk]; simpa using hI, hC, HTl.out, HN.out, hT, ap_CT, ap_CI, ap_TI, hb⟩
                case measure => simp [intOf]; omega
            · have htk : tkQ q i k = false := tk_free HP.out hlt hti hqk
              have HN : Hid (∀ t, i < t → t < N → bth (T.set k true) t = if t < k + 1 then tkQ q (i + 1) t else tkQ q i t) := fun t h1 h2 => by
                rw [bth_set (by have := HTl.out; omega)]
                by_cases e : t = k
                · subst e; rw [if_pos rfl, if_pos (by omega), HSk.out, hqk, Bool.or_true]
                · rw [if_neg e, HTk.out t h1 h2]
                  by_cases h' : t < k
                  · rw [if_pos h', if_pos (by omega)]
                  · rw [if_neg h', if_neg (by omega)]
              rw [HTi.out, htk] at hc6
              have HT2 : Hid ((T.set k true).length = N) := by show (T.set k true).length = N; rw [List.length_set]; exact HTl.out
              go_wp2_with (first | (go_at_call 125; refine Calls.mono (Ans.eqb (HQ.out _ i k hik hlk hb) hqk) ?_; rintro e w1 ⟨rfl, hbn⟩; replace hT := hT.keep hbn; replace hC := hC.keep hbn; replace hI := hI.keep hbn; replace hc6 := cell_keep hc6 hbn; replace hc7 := (hT.cell HTl.out.symm k hlk).2; replace hb := bel_to hb hbn; clear hbn) | (at_builtin; have hI' := OwnI.far (v' := .slice (some ⟨w.heap.size + 1, 0, none⟩) N N) hI (grown_set w1 (w.heap.size + 1) k (.bool true)) ap_TI.symm; have hC' := OwnRows.far (u := .slice (some ⟨w.heap.size + 1, 0, none⟩) N N) hC (grown_set w1 (w.heap.size + 1) k (.bool true)) ap_CT; have hT' := hT.store HTl.out.symm k true; have hb' := Below.setCell (p := (⟨w.heap.size + 1, k, none⟩ : Addr)) hb (Nat.le_succ _) (.bool true); refine wpList_append_fresh rfl _ _ 50 rfl w.heap.size 3 i0 (.int .i64 0) 1 8 Tryz.underlying50 hi hz0 hz1 hz2 rfl (by decide) _ _ _ rfl (World.ownsRow.alloc hI' _) _ 1 1 [.int .i64 (k : Int)] rfl rfl (World.news_of_block (cs := #[.int .i64 (k : Int)]) (t := 3) (fr := (0, 0)) (by have h9 := heap_alloc_new (w1.setCell ⟨w.heap.size + 1, k, none⟩ (.bool true)) (.cells #[.int .i64 (k : Int)] 3); simpa using h9)) (by intro u hu; simp at hu; subst hu; rfl) (by unfold maxLen; omega) (by omega) (by have := hb.size; simp; omega) ?_; intro v' w1 hown hgrow hfr; replace hb := (hb'.alloc (by have := hb.size; simp; omega) _).grown hgrow (by have := hb.size; simp; omega) (fun g hg => (World.ownsRow.lt hI' g hg).1); obtain ⟨hC, ap_CI⟩ := OwnRows.past hC' hgrow ap_CI hfr; obtain ⟨hT, ap_TI⟩ := OwnB.past hT' hgrow ap_TI hfr; replace hI := OwnI.snoc hown; clear hown hgrow hfr hI' hC' hT' hb') | fail)
              go_roundw
              case rel => exact ⟨k + 1, T.set k true, by go_num, by omega, by omega, by rw [HCS.out, hqk]; exact hI, hC, HT2.out, HN.out, hT, ap_CT, ap_CI, ap_TI, hb⟩
              case measure => simp [intOf]; omega
          · have hkk : k = N := by omega
            have HK : Hid (k = N) := hkk
            have HN : Hid (∀ t, i + 1 ≤ t → t < N → bth T t = tkQ q (i + 1) t) := fun t h1 h2 => by rw [HTk.out t (by omega) h2, if_pos (by omega)]
            have HCk : Hid (clsTo q i k = clsTo q i N) := by show clsTo q i k = clsTo q i N; rw [hkk]
            clear hkk
            rw [HCk.out] at hI
            have hcN := cls_len q i N
            generalize clsTo q i N = L at *
            obtain ⟨oL, cL, rfl⟩ := hI.shape
            by_cases h1 : 1 < L.length
            · have HSP : Hid (ptnQ q N (i + 1) = P ++ [L]) := by show ptnQ q N (i + 1) = _; rw [HS.out, decide_eq_true h1]; rfl
              have hxl2 := hC.len
              have hdec : decide ((1 : Int) < (L.length : Int)) = true := by simp; omega
              go_wp2_with (first | (at_builtin; refine wpList_append_fresh rfl _ _ 24 rfl w.heap.size 50 j0 (.slice none 0 0) 1 24 Tryz.underlying24 hj hy0 hy1 hy2 rfl (by decide) _ _ _ rfl (World.ownsRow.alloc hC.outer _) _ 1 1 [.slice oL L.length cL] rfl rfl (by intro j u hj; match j, hj with | 0, hj => simp at hj; subst hj; simp [Addr.add]) (by intro u hu; simp at hu; subst hu; rfl) (by unfold maxLen; omega) (by omega) (by have := hb.size; simp; omega) ?_; intro v' w1 hown hgrow hfr; replace hb := (hb.alloc hb.size _).grown hgrow (by have := hb.size; simp; omega) (fun g hg => (World.ownsRow.lt hC.outer g hg).1); have hC2 := OwnRows.snoc hC hI ap_CI hown hgrow hfr; have ap2 := (OwnB.past hT hgrow ap_CT.1.symm hfr); replace hT := ap2.1; have ap_CT2 := ap2.2.symm; clear ap2; replace hC := hC2; clear hC2 hown hgrow hfr) | fail)
              go_roundw
              case rel => exact ⟨i + 1, _, T, by go_num, by omega, by rw [HSP.out]; exact hC, HTl.out, HN.out, hT, ⟨ap_CT2, fun y hy => by rcases List.mem_append.1 hy with h' | h'; exact ap_CT.2 y h'; (rw [List.mem_singleton.1 h']; exact ap_TI.symm)⟩, hb⟩
              case measure => simp [intOf]; omega
            · have HSP : Hid (ptnQ q N (i + 1) = P) := by show ptnQ q N (i + 1) = _; rw [HS.out, decide_eq_false h1]; simp
              go_wp2
              go_roundw
              case rel => exact ⟨i + 1, xs, T, by go_num, by omega, by rw [HSP.out]; exact hC, HTl.out, HN.out, hT, ap_CT, hb⟩
              case measure => simp [intOf]; omega
      · have HS : Hid (ptnQ q N (i + 1) = ptnQ q N i) := by
          show ptnQ q N (i + 1) = _
          rw [ptn_succ]; unfold headQ; rw [hti]; simp
        have HN : Hid (∀ t, i + 1 ≤ t → t < N → bth T t = tkQ q (i + 1) t) := fun t h1 h2 => by rw [HTk.out t (by omega) h2, tk_taken HP.out hlt hti]
        rw [HTi.out, hti] at hc6
        go_wp2
        go_roundw
        case rel => exact ⟨i + 1, xs, T, by go_num, by omega, by rw [HS.out]; exact hC, HTl.out, HN.out, hT, ap_CT, hb⟩
        case measure => simp [intOf]; omega
    · have hkk : i = N := by omega
      have HK : Hid (i = N) := hkk
      clear hkk
      go_wp2
      go_ret
      exact ⟨_, _, rfl, by rw [← HK.out]; rw [HK.out] at hC ⊢; exact hC, hb⟩

theorem ownRows_nil (w : World) (base : Nat) : OwnRows w base (.slice none 0 0) [] [] := OwnRows.none w base
theorem c_PartitionOf (n : Int) (oa) (cap : Nat) (R : List (List Int)) (m s : Int) (w : World) (hR : RowsAt w oa R) :
    Calls Tryz.prog 110 #[.agg #[.int .i64 n, .slice oa R.length cap], .int .i64 m, .int .i64 s] w fun e w' => ∃ v xs, e = .returned v ∧ OwnRows w' w.heap.size v xs (ptnF n R m s) ∧ Below w.heap.size w w' := by
  have hb := (bel2 w (.cells #[.int .i64 n, .slice oa R.length cap] 26) (.cells #[.int .i64 m] 3)).alloc (by simp; omega) (.cells #[.int .i64 s] 3)
  have k1 := (Below.refl ((w.alloc (.cells #[.int .i64 n, .slice oa R.length cap] 26)).alloc (.cells #[.int .i64 m] 3)).heap.size _).alloc (Nat.le_refl _) (.cells #[.int .i64 s] 3)
  have a0 := cell_keep (two_a w #[.int .i64 n, .slice oa R.length cap] 26 #[.int .i64 m] 3 0 _ rfl) k1
  have a1 := cell_keep (two_a w #[.int .i64 n, .slice oa R.length cap] 26 #[.int .i64 m] 3 1 _ rfl) k1
  have m0 := cell_keep (two_b w #[.int .i64 n, .slice oa R.length cap] 26 #[.int .i64 m] 3 0 _ rfl) k1
  have s0 := box_at ((w.alloc (.cells #[.int .i64 n, .slice oa R.length cap] 26)).alloc (.cells #[.int .i64 m] 3)) #[.int .i64 s] 3 0 _ rfl
  simp only [World.size_alloc] at s0
  clear k1
  cases h1 : isTabF n R
  · have HM : Hid (ptnF n R m s = []) := by show ptnF n R m s = []; unfold ptnF ptnOk; rw [h1]; rfl
    go_enter Tryz.func110, Tryz.ntmps110
    go_wp2_with (first | (go_at_call 60; refine Calls.mono (Ans.eqb (c_IsTable _ _ _ _ _ (hR.keep hb)) h1) ?_; rintro e w1 ⟨rfl, hbn⟩; replace a0 := cell_keep a0 hbn; replace a1 := cell_keep a1 hbn; replace m0 := cell_keep m0 hbn; replace s0 := cell_keep s0 hbn; replace hb := bel_to (w := w) (by first | exact hb | exact hb.alloc hb.size _ | exact (hb.alloc hb.size _).alloc (Nat.le_trans hb.size (by simp)) _ | exact hb.setCell (by simp [hb.size]) _) hbn; clear hbn))
    go_ret
    exact ⟨_, _, rfl, by rw [HM.out]; exact OwnRows.none _ _, hb⟩
  cases h2 : modeF m
  · have HM : Hid (ptnF n R m s = []) := by show ptnF n R m s = []; unfold ptnF ptnOk; rw [h1, h2]; rfl
    go_enter Tryz.func110, Tryz.ntmps110
    go_wp2_with (first | (go_at_call 60; refine Calls.mono (Ans.eqb (c_IsTable _ _ _ _ _ (hR.keep hb)) h1) ?_; rintro e w1 ⟨rfl, hbn⟩; replace a0 := cell_keep a0 hbn; replace a1 := cell_keep a1 hbn; replace m0 := cell_keep m0 hbn; replace s0 := cell_keep s0 hbn; replace hb := bel_to (w := w) (by first | exact hb | exact hb.alloc hb.size _ | exact (hb.alloc hb.size _).alloc (Nat.le_trans hb.size (by simp)) _ | exact hb.setCell (by simp [hb.size]) _) hbn; clear hbn) | (go_at_call 61; refine Calls.mono (Ans.eqb (c_isMode _ _) h2) ?_; rintro e w1 ⟨rfl, hbn⟩; replace a0 := cell_keep a0 hbn; replace a1 := cell_keep a1 hbn; replace m0 := cell_keep m0 hbn; replace s0 := cell_keep s0 hbn; replace hb := bel_to (w := w) (by first | exact hb | exact hb.alloc hb.size _ | exact (hb.alloc hb.size _).alloc (Nat.le_trans hb.size (by simp)) _ | exact hb.setCell (by simp [hb.size]) _) hbn; clear hbn))
    go_ret
    exact ⟨_, _, rfl, by rw [HM.out]; exact OwnRows.none _ _, hb⟩
  cases h3 : isAttr n s
  · have HM : Hid (ptnF n R m s = []) := by show ptnF n R m s = []; unfold ptnF ptnOk; rw [h1, h2, h3]; rfl
    go_enter Tryz.func110, Tryz.ntmps110
    go_wp2_with (first | (go_at_call 60; refine Calls.mono (Ans.eqb (c_IsTable _ _ _ _ _ (hR.keep hb)) h1) ?_; rintro e w1 ⟨rfl, hbn⟩; replace a0 := cell_keep a0 hbn; replace a1 := cell_keep a1 hbn; replace m0 := cell_keep m0 hbn; replace s0 := cell_keep s0 hbn; replace hb := bel_to (w := w) (by first | exact hb | exact hb.alloc hb.size _ | exact (hb.alloc hb.size _).alloc (Nat.le_trans hb.size (by simp)) _ | exact hb.setCell (by simp [hb.size]) _) hbn; clear hbn) | (go_at_call 61; refine Calls.mono (Ans.eqb (c_isMode _ _) h2) ?_; rintro e w1 ⟨rfl, hbn⟩; replace a0 := cell_keep a0 hbn; replace a1 := cell_keep a1 hbn; replace m0 := cell_keep m0 hbn; replace s0 := cell_keep s0 hbn; replace hb := bel_to (w := w) (by first | exact hb | exact hb.alloc hb.size _ | exact (hb.alloc hb.size _).alloc (Nat.le_trans hb.size (by simp)) _ | exact hb.setCell (by simp [hb.size]) _) hbn; clear hbn) | (go_at_call 123; refine Calls.mono (Ans.eqb (c_isAttributes _ _ _) h3) ?_; rintro e w1 ⟨rfl, hbn⟩; replace a0 := cell_keep a0 hbn; replace a1 := cell_keep a1 hbn; replace m0 := cell_keep m0 hbn; replace s0 := cell_keep s0 hbn; replace hb := bel_to (w := w) (by first | exact hb | exact hb.alloc hb.size _ | exact (hb.alloc hb.size _).alloc (Nat.le_trans hb.size (by simp)) _ | exact hb.setCell (by simp [hb.size]) _) hbn; clear hbn))
    go_ret
    exact ⟨_, _, rfl, by rw [HM.out]; exact OwnRows.none _ _, hb⟩
  have HM : Hid (ptnF n R m s = ptnQ (sameB R m s) R.length R.length) := by show ptnF n R m s = _; unfold ptnF ptnOk; rw [h1, h2, h3]; rfl
  have ht := isTab_of h1
  have HT : Hid (isTabF n R = true) := h1
  have hr40 : R.length ≤ 40 := ht.2.2.1
  have hs : St s := by
    have h := h3
    unfold isAttr at h
    simp only [Bool.and_eq_true, decide_eq_true_eq] at h
    have hp := (pow_wrap (n := n) (by omega) ht.2.1).2.1
    exact ⟨h.1.2, by omega⟩
  have HP : Hid (Per (sameB R m s) R.length) := same_per h1 hs
  clear ht hs
  go_enter Tryz.func110, Tryz.ntmps110
  go_wp2_with (first | (go_at_call 60; refine Calls.mono (Ans.eqb (c_IsTable _ _ _ _ _ (hR.keep hb)) h1) ?_; rintro e w1 ⟨rfl, hbn⟩; replace a0 := cell_keep a0 hbn; replace a1 := cell_keep a1 hbn; replace m0 := cell_keep m0 hbn; replace s0 := cell_keep s0 hbn; replace hb := bel_to (w := w) (by first | exact hb | exact hb.alloc hb.size _ | exact (hb.alloc hb.size _).alloc (Nat.le_trans hb.size (by simp)) _ | exact hb.setCell (by simp [hb.size]) _) hbn; clear hbn) | (go_at_call 61; refine Calls.mono (Ans.eqb (c_isMode _ _) h2) ?_; rintro e w1 ⟨rfl, hbn⟩; replace a0 := cell_keep a0 hbn; replace a1 := cell_keep a1 hbn; replace m0 := cell_keep m0 hbn; replace s0 := cell_keep s0 hbn; replace hb := bel_to (w := w) (by first | exact hb | exact hb.alloc hb.size _ | exact (hb.alloc hb.size _).alloc (Nat.le_trans hb.size (by simp)) _ | exact hb.setCell (by simp [hb.size]) _) hbn; clear hbn) | (go_at_call 123; refine Calls.mono (Ans.eqb (c_isAttributes _ _ _) h3) ?_; rintro e w1 ⟨rfl, hbn⟩; replace a0 := cell_keep a0 hbn; replace a1 := cell_keep a1 hbn; replace m0 := cell_keep m0 hbn; replace s0 := cell_keep s0 hbn; replace hb := bel_to (w := w) (by first | exact hb | exact hb.alloc hb.size _ | exact (hb.alloc hb.size _).alloc (Nat.le_trans hb.size (by simp)) _ | exact hb.setCell (by simp [hb.size]) _) hbn; clear hbn))
  refine (c_classesOf_S R.length hr40 _ _ _ (sameB R m s) HP.out _ ?_).mono ?_
  · intro W i k hik hk hB
    exact c_clS n oa cap R m s i k _ _ _ W ((hR.keep hb).keep hB) HT.out (by omega) hk (cell_keep m0 hB) (cell_keep a1 hB) (cell_keep s0 hB)
  rintro e w2 ⟨v2, xs, rfl, hO, hbn⟩
  replace hO := hO.based hb.size
  replace hb := bel_to hb hbn
  clear hbn
  go_wp2
  go_ret
  exact ⟨_, _, rfl, by rw [HM.out]; exact hO, hb⟩
end Go.Proofs.YtcenndlbhgfdfaaGreat
namespace Go.Proofs.YtcenndlbhgfdfaaGreat
open Go.RowKit
set_option linter.unusedVariables false
set_option maxRecDepth 100000

theorem OwnRows.past0 {w w' : World} {B : Nat} {v u u' : Value} {xs : List Value} {R : List (List Int)} (h : OwnRows w B v xs R) (hg : w.grownBy w' u.ownBlock) (ha : ApartR v xs u) (hf : Fresh w u u') : OwnRows w' B v xs R ∧ ApartR v xs u' := by
  refine ⟨OwnRows.far h hg ha, Apart.next h.outer ha.1 hf, fun y hy => ?_⟩
  obtain ⟨j, _, o', c, e, h2, _⟩ := h.one hy
  exact Apart.next h2 (ha.2 y hy) hf
theorem OwnI.news {w : World} {base : Nat} {oa : Option Addr} {n c : Nat} {L : List Int} (h : OwnI w base (.slice oa n c) L) (h0 : 0 < L.length) : ∃ g, oa = some ⟨g, 0, none⟩ ∧ ∀ j u, (L.map encI)[j]? = some u → w.cell? ((⟨g, 0, none⟩ : Addr).add j) = some u := by
  obtain ⟨oa', c', e, hg⟩ := owns_cells h
  simp only [Value.slice.injEq] at e
  obtain ⟨rfl, _, rfl⟩ := e
  obtain ⟨g, h1, _, _, _, _, _⟩ := hg h0
  subst h1
  exact ⟨g, rfl, World.ownsRow.cells h rfl⟩
set_option maxHeartbeats 3200000 in
theorem c_l5Classes (n : Int) (oa) (cap : Nat) (R : List (List Int)) (m s : Int) (w : World) (hR : RowsAt w oa R) (ht : isTabF n R = true) (hs : St s) :
    Calls Tryz.prog 82 #[.agg #[.int .i64 n, .slice oa R.length cap], .int .i64 m, .int .i64 s] w fun e w' => ∃ v xs, e = .returned v ∧ OwnRows w' w.heap.size v xs (ptnQ (sameB R m s) R.length R.length) ∧ Below w.heap.size w w' := by
  obtain ⟨i0, hi, hz0, hz1, hz2⟩ := info_parts info_int
  obtain ⟨j0, hj, hy0, hy1, hy2⟩ := info_parts info_ints
  obtain ⟨hn1, hn5, hr40, hlen⟩ := isTab_of ht
  have HT : Hid (isTabF n R = true) := ht
  have HP : Hid (Per (sameB R m s) R.length) := same_per ht hs
  have HSS : Hid (St s ∧ ∀ k, k < R.length → (row R k).length ≤ 5) := ⟨hs, fun k hk => by have := hlen k hk; omega⟩
  have HQ : Hid (∀ i k, sameB R m s i k = ins s (agreeF m (row R i) (row R k))) := fun i k => rfl
  have hb := (bel2 w (.cells #[.int .i64 n, .slice oa R.length cap] 26) (.cells #[] 50)).alloc (by simp; omega) (.cells #[] 3)
  have k1 := (Below.refl ((w.alloc (.cells #[.int .i64 n, .slice oa R.length cap] 26)).alloc (.cells #[] 50)).heap.size _).alloc (Nat.le_refl _) (.cells #[] 3)
  have a0 := cell_keep (two_a w #[.int .i64 n, .slice oa R.length cap] 26 #[] 50 0 _ rfl) k1
  have a1 := cell_keep (two_a w #[.int .i64 n, .slice oa R.length cap] 26 #[] 50 1 _ rfl) k1
  have hC0 : OwnRows ((w.alloc (.cells #[.int .i64 n, .slice oa R.length cap] 26)).alloc (.cells #[] 50)) (w.heap.size + 1) (.slice (some ⟨w.heap.size + 1, 0, none⟩) 0 0) [] [] := by
    have h := OwnRows.empty (w.alloc (.cells #[.int .i64 n, .slice oa R.length cap] 26)) _ (Nat.le_refl _)
    simpa only [World.size_alloc] using h
  have hC := hC0.keep k1
  have hD0 := OwnI.empty ((w.alloc (.cells #[.int .i64 n, .slice oa R.length cap] 26)).alloc (.cells #[] 50)) _ (Nat.le_refl _)
  have ap_CD := hC0.fresh hD0
  have hD := hD0.based (show w.heap.size + 1 ≤ _ by simp)
  simp only [World.size_alloc] at hD ap_CD
  clear k1 hD0 hC0 ht hs hlen
  have hnl : 0 < R.length ∨ R.length = 0 := by omega
  generalize hq : sameB R m s = q at *
  go_enter Tryz.func82, Tryz.ntmps82
  go_wp2
  go_loopw [7, 8, 9] (fun vC vD i wr => ∃ (i' : Nat) (xs : List Value), i = .int .i64 i' ∧ i' ≤ R.length ∧ OwnRows wr (w.heap.size + 1) vC xs (ptnQ q R.length i') ∧ OwnI wr (w.heap.size + 1) vD (ptnQ q R.length i').flatten ∧ ApartR vC xs vD ∧ wr.cell? ⟨w.heap.size, 0, none⟩ = some (.int .i64 n) ∧ wr.cell? ⟨w.heap.size, 1, none⟩ = some (.slice oa R.length cap) ∧ Below w.heap.size w wr) (fun _ _ i _ => R.length - (intOf i).toNat)
  case atStart => exact ⟨0, [], rfl, Nat.zero_le _, hC, hD, ap_CD, a0, a1, hb⟩
  case round =>
    clear hC hD ap_CD a0 a1 hb
    obtain ⟨i, xs, rfl, hi', hC, hD, ap_CD, a0, a1, hb⟩ := hrel
    have hpl := ptn_len q R.length i
    have hxl := hC.len
    have hxs : xs.length ≤ 40 := by omega
    have hfl := flat_len (q := q) hr40 i
    have hflR : ((ptnQ q R.length i).flatten).length ≤ Room := by unfold Room; omega
    clear hxl
    by_cases hlt : i < R.length
    · have HF0 : Hid (inB' (ptnQ q R.length i).flatten (i : Int) = tkQ q i i) := by
        show inB' (ptnQ q R.length i).flatten (i : Int) = tkQ q i i
        rw [Bool.eq_iff_iff]
        have := ptn_flat HP.out (Nat.le_refl i) hlt
        simpa [inB'] using this
      cases hti : tkQ q i i
      · have hin : inB' (ptnQ q R.length i).flatten (i : Int) = false := HF0.out.trans hti
        have HS : Hid (ptnQ q R.length (i + 1) = ptnQ q R.length i ++ (if decide (1 < (clsTo q i R.length).length) then [clsTo q i R.length] else [])) := by
          show ptnQ q R.length (i + 1) = _
          rw [ptn_succ]; unfold headQ; rw [hti]; rfl
        have HF : Hid (clsTo q i (i + 1) = [(i : Int)]) := cls_first q i
        have HFX : Hid ((ptnQ q R.length (i + 1)).flatten = (ptnQ q R.length i).flatten ++ (if decide (1 < (clsTo q i R.length).length) then clsTo q i R.length else [])) := by
          show (ptnQ q R.length (i + 1)).flatten = _
          rw [HS.out, List.flatten_append]; split <;> simp
        clear HF0
        generalize (ptnQ q R.length i).flatten = F at *
        generalize ptnQ q R.length i = P at *
        obtain ⟨oD, cD, rfl⟩ := hD.shape
        go_wp2_with fail
        refine Calls.mono (Ans.eqb (c_l2Has _ _ _ _ _ (hD.ints rfl hflR)) hin) ?_
        rintro e w1 ⟨rfl, hbn⟩
        replace a0 := cell_keep a0 hbn
        replace a1 := cell_keep a1 hbn
        replace hC := hC.keep hbn
        replace hD := hD.keep hbn
        replace hb := bel_to hb hbn
        clear hbn hin
        have hbe := World.block_lt_of_cell? _ _ a1
        have hI := OwnI.single w1 (w.heap.size + 1) hbe (i : Int)
        have hIf := OwnI.single w1 w1.heap.size (Nat.le_refl _) (i : Int)
        have ap_CI := hC.fresh hIf
        have ap_DI := apart_old hD hIf
        have hba := (Below.refl w1.heap.size w1).alloc (Nat.le_refl _) (.cells #[.int .i64 (i : Int)] 3)
        replace hC := hC.keep hba
        replace hD := hD.keep hba
        replace a0 := cell_keep a0 hba
        replace a1 := cell_keep a1 hba
        replace hb := bel_to hb hba
        clear hIf hba hbe
        go_wp2
        go_loopw [10, 11] (fun vI k' wr => ∃ k : Nat, k' = .int .i64 k ∧ i < k ∧ k ≤ R.length ∧ OwnI wr (w.heap.size + 1) vI (clsTo q i k) ∧ OwnRows wr (w.heap.size + 1) u7 xs P ∧ OwnI wr (w.heap.size + 1) (.slice oD F.length cD) F ∧ ApartR u7 xs (.slice oD F.length cD) ∧ ApartR u7 xs vI ∧ Apart (.slice oD F.length cD) vI ∧ wr.cell? ⟨w.heap.size, 0, none⟩ = some (.int .i64 n) ∧ wr.cell? ⟨w.heap.size, 1, none⟩ = some (.slice oa R.length cap) ∧ Below w.heap.size w wr) (fun _ k _ => R.length - (intOf k).toNat)
        case atStart => exact ⟨i + 1, by go_num, by omega, by omega, by rw [HF.out]; exact hI, hC, hD, ap_CD, ap_CI, ap_DI, a0, a1, hb⟩
        case round =>
          clear hC hD hI ap_CD ap_CI ap_DI a0 a1 hb HF
          obtain ⟨k, rfl, hik, hk, hI, hC, hD, ap_CD, ap_CI, ap_DI, a0, a1, hb⟩ := hrel
          have hcl := cls_len q i k
          by_cases hlk : k < R.length
          · have HCS : Hid (clsTo q i (k + 1) = clsTo q i k ++ (if q i k then [(k : Int)] else [])) := by
              show clsTo q i (k + 1) = _
              rw [cls_succ, decide_eq_true hik]; rfl
            have HV : Hid (q i k = ins s (agreeF m (row R i) (row R k))) := HQ.out i k
            have HSX : Hid (St (agreeF m (row R i) (row R k))) := agreeF_st (HSS.out.2 i hlt)
            generalize clsTo q i k = L at *
            go_wp2_with fail
            refine Calls.mono (c_l4Agree n _ _ _ m i k _ (hR.keep hb) HT.out hlt hlk) ?_
            rintro e w2 ⟨rfl, hbn⟩
            replace a0 := cell_keep a0 hbn
            replace a1 := cell_keep a1 hbn
            replace hC := hC.keep hbn
            replace hD := hD.keep hbn
            replace hI := hI.keep hbn
            replace hb := bel_to hb hbn
            clear hbn
            generalize agreeF m (row R i) (row R k) = x at *
            cases hqk : q i k
            · have h1' : (bits BinOp.and .i64 x s == s) = false := (and_swap HSX.out HSS.out.1).trans (HV.out.symm.trans hqk)
              go_wp2
              go_roundw
              case rel => exact ⟨k + 1, by go_num, by omega, by omega, by rw [HCS.out, hqk]; simpa using hI, hC, hD, ap_CD, ap_CI, ap_DI, a0, a1, hb⟩
              case measure => simp [intOf]; omega
            · have h1' : (bits BinOp.and .i64 x s == s) = true := (and_swap HSX.out HSS.out.1).trans (HV.out.symm.trans hqk)
              go_wp2_with (first | (at_builtin; refine wpList_append_fresh rfl _ _ 50 rfl (w.heap.size + 1) 3 i0 (.int .i64 0) 1 8 Tryz.underlying50 hi hz0 hz1 hz2 rfl (by decide) _ _ _ rfl (World.ownsRow.alloc hI _) _ 1 1 [.int .i64 (k : Int)] rfl rfl (by intro j u hj; match j, hj with | 0, hj => simp at hj; subst hj; simp [Addr.add]) (by intro u hu; simp at hu; subst hu; rfl) (by unfold maxLen; omega) (by omega) (by have := World.block_lt_of_cell? _ _ a1; simp at this; simp; omega) ?_; intro v' w3 hown hgrow hfr; replace hb := (hb.alloc hb.size _).grown hgrow (by have := hb.size; simp; omega) (fun g hg => Nat.le_trans (Nat.le_succ _) (World.ownsRow.lt hI g hg).1); replace a0 := cell_gr (cell_al a0 _) (World.ownsRow.alloc hI _) (by omega) hgrow; replace a1 := cell_gr (cell_al a1 _) (World.ownsRow.alloc hI _) (by omega) hgrow; obtain ⟨hC, ap_CI⟩ := OwnRows.past hC hgrow ap_CI hfr; obtain ⟨hD, ap_DI⟩ := OwnI.past hD hgrow ap_DI hfr; replace hI := OwnI.snoc hown; clear hown hgrow hfr) | fail)
              go_roundw
              case rel => exact ⟨k + 1, by go_num, by omega, by omega, by rw [HCS.out, hqk]; exact hI, hC, hD, ap_CD, ap_CI, ap_DI, a0, a1, hb⟩
              case measure => simp [intOf]; omega
          · have hkk : k = R.length := by omega
            have HCk : Hid (clsTo q i k = clsTo q i R.length) := by show clsTo q i k = clsTo q i R.length; rw [hkk]
            clear hkk
            rw [HCk.out] at hI
            have hcN := cls_len q i R.length
            generalize clsTo q i R.length = L at *
            obtain ⟨oL, cL, rfl⟩ := hI.shape
            by_cases h1 : 1 < L.length
            · have HSP : Hid (ptnQ q R.length (i + 1) = P ++ [L]) := by show ptnQ q R.length (i + 1) = _; rw [HS.out, decide_eq_true h1]; rfl
              have HFL : Hid ((ptnQ q R.length (i + 1)).flatten = F ++ L) := by show (ptnQ q R.length (i + 1)).flatten = _; rw [HFX.out, decide_eq_true h1]; rfl
              have hxl2 := hC.len
              obtain ⟨gL, rfl, _⟩ := hI.news (by omega)
              have hq : True := trivial
              go_wp2_with (first | (clear hq; at_builtin; refine wpList_append_fresh rfl _ _ 24 rfl (w.heap.size + 1) 50 j0 (.slice none 0 0) 1 24 Tryz.underlying24 hj hy0 hy1 hy2 rfl (by decide) _ _ _ rfl (World.ownsRow.alloc hC.outer _) _ 1 1 [.slice (some ⟨gL, 0, none⟩) L.length cL] rfl rfl (by intro j u hj; match j, hj with | 0, hj => simp at hj; subst hj; simp [Addr.add]) (by intro u hu; simp at hu; subst hu; rfl) (by unfold maxLen; omega) (by omega) (by have := World.block_lt_of_cell? _ _ a1; simp at this; simp; omega) ?_; intro v' w1 hown hgrow hfr; replace hb := (hb.alloc hb.size _).grown hgrow (by have := hb.size; simp; omega) (fun g hg => Nat.le_trans (Nat.le_succ _) (World.ownsRow.lt hC.outer g hg).1); replace a0 := cell_gr (cell_al a0 _) (World.ownsRow.alloc hC.outer _) (by omega) hgrow; replace a1 := cell_gr (cell_al a1 _) (World.ownsRow.alloc hC.outer _) (by omega) hgrow; have hC2 := OwnRows.snoc hC hI ap_CI hown hgrow hfr; have apI := (OwnI.past hI hgrow ap_CI.1.symm hfr); have apD := (OwnI.past hD hgrow ap_CD.1.symm hfr); replace hI := apI.1; replace hD := apD.1; have ap_CD2 := (show ApartR v' (xs ++ [.slice (some ⟨gL, 0, none⟩) L.length cL]) (.slice oD F.length cD) from ⟨apD.2.symm, fun y hy => by rcases List.mem_append.1 hy with h' | h'; exact ap_CD.2 y h'; (rw [List.mem_singleton.1 h']; exact ap_DI.symm)⟩); clear apI apD; replace hC := hC2; clear hC2 hown hgrow hfr; obtain ⟨gL', eL, hnews⟩ := hI.news (by omega); obtain rfl : gL = gL' := by simpa using eL) | (at_builtin; refine wpList_append_fresh rfl _ _ 50 rfl (w.heap.size + 1) 3 i0 (.int .i64 0) 1 8 Tryz.underlying50 hi hz0 hz1 hz2 rfl (by decide) (.slice oD F.length cD) F.length (F.map encI) rfl (show _ from hD) _ L.length cL (L.map encI) rfl (by simp) hnews (ones' L) (by unfold maxLen; omega) (by omega) (World.block_lt_of_cell? _ _ a1) ?_; intro v'' w2 hown hgrow hfr; replace hb := hb.grown hgrow hb.size (fun g hg => Nat.le_trans (Nat.le_succ _) (World.ownsRow.lt hD g hg).1); replace a0 := cell_gr a0 hD (by omega) hgrow; replace a1 := cell_gr a1 hD (by omega) hgrow; obtain ⟨hC, ap_CD3⟩ := OwnRows.past0 hC hgrow ap_CD2 hfr; have hD2 := (show OwnI w2 (w.heap.size + 1) v'' (F ++ L) from by unfold OwnI; rw [List.length_append, List.map_append]; exact hown); clear hown hgrow hfr) | fail)
              go_roundw
              case rel => exact ⟨i + 1, _, by go_num, by omega, by rw [HSP.out]; exact hC, by rw [HFL.out]; exact hD2, ap_CD3, a0, a1, hb⟩
              case measure => simp [intOf]; omega
            · have HSP : Hid (ptnQ q R.length (i + 1) = P) := by show ptnQ q R.length (i + 1) = _; rw [HS.out, decide_eq_false h1]; simp
              go_wp2
              go_roundw
              case rel => exact ⟨i + 1, xs, by go_num, by omega, by rw [HSP.out]; exact hC, by rw [HFX.out, decide_eq_false h1]; simpa using hD, ap_CD, a0, a1, hb⟩
              case measure => simp [intOf]; omega
      · have hin : inB' (ptnQ q R.length i).flatten (i : Int) = true := HF0.out.trans hti
        have HS : Hid (ptnQ q R.length (i + 1) = ptnQ q R.length i) := by
          show ptnQ q R.length (i + 1) = _
          rw [ptn_succ]; unfold headQ; rw [hti]; simp
        have HFX : Hid ((ptnQ q R.length (i + 1)).flatten = (ptnQ q R.length i).flatten) := by show (ptnQ q R.length (i + 1)).flatten = _; rw [HS.out]
        clear HF0
        generalize (ptnQ q R.length i).flatten = F at *
        generalize ptnQ q R.length i = P at *
        obtain ⟨oD, cD, rfl⟩ := hD.shape
        go_wp2_with fail
        refine Calls.mono (Ans.eqb (c_l2Has _ _ _ _ _ (hD.ints rfl hflR)) hin) ?_
        rintro e w1 ⟨rfl, hbn⟩
        replace a0 := cell_keep a0 hbn
        replace a1 := cell_keep a1 hbn
        replace hC := hC.keep hbn
        replace hD := hD.keep hbn
        replace hb := bel_to hb hbn
        clear hbn hin
        go_wp2
        go_roundw
        case rel => exact ⟨i + 1, xs, by go_num, by omega, by rw [HS.out]; exact hC, by rw [HFX.out]; exact hD, ap_CD, a0, a1, hb⟩
        case measure => simp [intOf]; omega
    · have hkk : i = R.length := by omega
      have HK : Hid (i = R.length) := hkk
      clear hkk
      go_wp2
      go_ret
      exact ⟨_, _, rfl, by have h := hC.based (Nat.le_succ w.heap.size); rw [HK.out] at h; exact h, hb⟩
end Go.Proofs.YtcenndlbhgfdfaaGreat
namespace Go.Proofs.YtcenndlbhgfdfaaGreat
open Go.RowKit
set_option linter.unusedVariables false
set_option maxRecDepth 100000

theorem heap_new_at {w : World} {o : Obj} {k : Nat} (h : k = w.heap.size) : (w.alloc o).heap[k]? = some o := by subst h; exact heap_alloc_new _ _
/-- 't.Rows = append(t.Rows, r)', while a cursor is being read. -/
theorem tab_snocG {w w5 w7 : World} {B k6 c c5 nC g : Nat} {hd v' : Value} {T T2 : TypeId} {o o5 : Option Addr} {xs : List Value} {P : List (List Int)} {C : List Int} (hnC : C.length = nC)
    (hO : OwnRows w5 B (.slice o P.length c) xs P) (hC : OwnI w5 B (.slice o5 nC c5) C) (hap : ApartR (.slice o P.length c) xs (.slice o5 nC c5))
    (kb : Blk w5 k6 #[hd, .slice o P.length c] T) (av : Avoid k6 (.slice o P.length c) xs) (avC : (Value.slice o5 nC c5).ownBlock ≠ some k6) (hc : Cur w5 g) (hG : w.grownBy w5 (some g)) (hB : w.heap.size ≤ B) (hk6 : w.heap.size ≤ k6) (hgk : g < k6)
    (hown : w7.ownsRow B 50 1 v' (xs.length + 1) (xs ++ [.slice o5 nC c5])) (hgrow : (w5.alloc (.cells #[.slice o5 nC c5] T2)).grownBy w7 (Value.slice o P.length c).ownBlock) (hfr : Fresh (w5.alloc (.cells #[.slice o5 nC c5] T2)) (.slice o P.length c) v') (hgB : g < B := by omega) :
    (∃ o' c', v' = .slice o' (P.length + 1) c') ∧ w7.cell? ⟨k6, 1, none⟩ = some (.slice o P.length c) ∧ w7.frozen? ⟨k6, 1, none⟩ = false ∧ Blk (w7.setCell ⟨k6, 1, none⟩ v') k6 #[hd, v'] T ∧
    OwnRows (w7.setCell ⟨k6, 1, none⟩ v') B v' (xs ++ [.slice o5 nC c5]) (P ++ [C]) ∧ Avoid k6 v' (xs ++ [.slice o5 nC c5]) ∧ Cur (w7.setCell ⟨k6, 1, none⟩ v') g ∧ w.grownBy (w7.setCell ⟨k6, 1, none⟩ v') (some g) ∧
    (∀ (B' : Nat) (e : TypeId) (size : Nat) (u : Value) (n : Nat) (ys : List Value), w5.ownsRow B' e size u n ys → Apart u (.slice o P.length c) → u.ownBlock ≠ some k6 → (w7.setCell ⟨k6, 1, none⟩ v').ownsRow B' e size u n ys ∧ Apart u v') ∧
    (∀ (g' : Nat) (cs : Array Value) (T' : TypeId), Blk w5 g' cs T' → g' ≠ k6 → (Value.slice o P.length c).ownBlock ≠ some g' → Blk (w7.setCell ⟨k6, 1, none⟩ v') g' cs T') := by
  have hal : w5.heap.size ≤ (w5.alloc (.cells #[.slice o5 nC c5] T2)).heap.size := by simp
  obtain ⟨h1, h2, h3, h4, h5, h6, _, h8, h9⟩ := tab_snoc (w := { w5 with heap := #[] }) hnC hO hC hap kb av avC ⟨rfl, rfl, rfl, Nat.zero_le _, fun i hi => absurd hi (by simp)⟩ (Nat.zero_le _) (Nat.zero_le _) hown hgrow hfr
  refine ⟨h1, h2, h3, h4, h5, h6, (Cur.grown (cur_alloc hc _) hgrow (fun k e => by have := (World.ownsRow.lt hO.outer k e).1; omega)).set hgk, grown_new (grown_more (grown_trans hG (grown_of_below ((Below.refl _ _).alloc (Nat.le_refl _) _) _)) hgrow (fun k e => by have := (World.ownsRow.lt hO.outer k e).1; omega)) hk6, h8, h9⟩
set_option maxHeartbeats 3200000 in
theorem c_l3Table (g : Nat) (w : World) (hc : Cur w g) :
    Calls Tryz.prog 86 #[.pointer (some ⟨g, 0, none⟩)] w fun e w' => ∃ (N : Nat) (o : Option Addr) (c : Nat) (xs : List Value) (R : List (List Int)), e = .returned (.agg #[.int .i64 N, .slice o R.length c]) ∧ OwnRows w' w.heap.size (.slice o R.length c) xs R ∧ (2 ≤ N ∧ N ≤ 4 ∧ R.length ≤ 12 ∧ ∀ j, j < R.length → (row R j).length ≤ 5) ∧ Cur w' g ∧ w.grownBy w' (some g) := by
  obtain ⟨i0, hi, hz0, hz1, hz2⟩ := info_parts info_int
  obtain ⟨j0, hj, hy0, hy1, hy2⟩ := info_parts info_ints
  have hlt := hc.lt
  have kZ := Blk.new w #[.int .i64 0, .slice none 0 0] 26
  have hG := grown_of_below ((Below.refl w.heap.size w).alloc (Nat.le_refl _) (.cells #[.int .i64 0, .slice none 0 0] 26)) (some g)
  replace hc := cur_alloc hc (.cells #[.int .i64 0, .slice none 0 0] 26)
  go_enter Tryz.func86, Tryz.ntmps86
  go_wp2_with fail
  refine (c_l1Below g 3 (by omega) _ hc).mono ?_
  rintro e w1 ⟨q, rfl, hq0, hq1, _, hc1, hg⟩
  replace kZ := kZ.cur hg (show w.heap.size ≠ g by omega)
  replace hG := grown_trans hG hg
  have hq2 := hq1 (by omega)
  clear hc hg hq1
  have hz := kZ.lt
  have kT := Blk.new w1 #[.int .i64 ((2 : Int) + q), .slice none 0 0] 26
  have hba := (Below.refl w1.heap.size w1).alloc (Nat.le_refl _) (.cells #[.int .i64 ((2 : Int) + q), .slice none 0 0] 26)
  replace kZ := kZ.keep hba
  replace hc1 := hc1.keep hba
  replace hG := grown_trans hG (grown_of_below hba _)
  clear hba
  go_upto_region 2 with fail
  generalize w1.alloc (.cells #[.int .i64 ((2 : Int) + q), .slice none 0 0] 26) = w2 at *
  obtain ⟨k6, hk6⟩ : ∃ k, w1.heap.size = k := ⟨_, rfl⟩
  rw [hk6] at kT hz
  simp only [hk6]
  clear hk6
  obtain ⟨N, hN⟩ : ∃ N : Nat, (2 : Int) + q = N := ⟨(2 + q).toNat, by omega⟩
  have hN2 : 2 ≤ N ∧ N ≤ 4 := by omega
  simp only [hN] at kT ⊢
  clear hN hq0 hq2
  go_wp2_with fail
  refine (c_l1Below g 3 (by omega) _ hc1).mono ?_
  rintro e w3 ⟨q3, rfl, hq0, hq1, _, hc3, hg⟩
  replace kZ := kZ.cur hg (show w.heap.size ≠ g by omega)
  replace kT := kT.cur hg (show k6 ≠ g by omega)
  replace hG := grown_trans hG hg
  have hq2 := hq1 (by omega)
  clear hc1 hg hq1
  go_wp2_with fail
  obtain ⟨wd, hwd⟩ : ∃ z, (2 : Int) + q3 = z := ⟨_, rfl⟩
  have hw4 : wd ≤ 256 := by omega
  simp only [hwd]
  clear hwd hq0 hq2
  refine (c_l1Below g 7 (by omega) _ hc3).mono ?_
  rintro e w4 ⟨q4, rfl, hq0, hq1, _, hc4, hg⟩
  replace kZ := kZ.cur hg (show w.heap.size ≠ g by omega)
  replace kT := kT.cur hg (show k6 ≠ g by omega)
  replace hG := grown_trans hG hg
  obtain ⟨k0, rfl⟩ := Int.eq_ofNat_of_zero_le hq0
  have hk0 : k0 ≤ 6 := by have := hq1 (by omega); omega
  clear hc3 hg hq0 hq1
  have hO := OwnRows.none w4 (w.heap.size + 1)
  go_wp2_with fail
  go_loopw [5] (fun i wr => ∃ (k : Nat) (R : List (List Int)) (o : Option Addr) (c : Nat) (xs : List Value), i = .int .i64 k ∧ R.length + 2 * k ≤ 12 ∧ (∀ j, j < R.length → (row R j).length ≤ 5) ∧ Blk wr k6 #[.int .i64 N, .slice o R.length c] 26 ∧ OwnRows wr (w.heap.size + 1) (.slice o R.length c) xs R ∧ Avoid k6 (.slice o R.length c) xs ∧ Cur wr g ∧ w.grownBy wr (some g) ∧ Blk wr w.heap.size #[.int .i64 0, .slice none 0 0] 26) (fun i _ => (intOf i).toNat)
  case atStart => exact ⟨k0, [], none, 0, [], rfl, by simp; omega, fun j hj => absurd hj (by simp), kT, hO, (fun y hy e => by rcases hy with rfl | hy; (simp [Value.ownBlock] at e); cases hy), hc4, hG, kZ⟩
  case round =>
    clear kT hO hc4 hG kZ
    obtain ⟨k, R, o, c, xs, rfl, hk, hlen, kT, hO, av, hc, hG, kZ⟩ := hrel
    have HLn : Hid (∀ j, j < R.length → (row R j).length ≤ 5) := hlen
    clear hlen
    have hRl : R.length ≤ 12 := by omega
    have hxl := hO.len
    by_cases hlt0 : 0 < k
    · have n0 := kT.cell 0 (.int .i64 N) rfl
      have hkt := kT.lt
      go_wp2_with fail
      refine (c_l3RandomRow g N (by omega) wd hw4 _ hc).mono ?_
      rintro e w5 ⟨o5, c5, C, rfl, hI, hCN, hc5, hg⟩
      have apI := OwnRows.fresh hO hI
      have avI : (Value.slice o5 C.length c5).ownBlock ≠ some k6 := fun e9 => by have := (World.ownsRow.lt hI _ e9).1; omega
      have HCN : Hid (C.length = N) := hCN
      have hC5 : C.length ≤ 5 := by omega
      have hC0 : 0 < C.length := by omega
      clear hCN
      replace hI := hI.based (show w.heap.size + 1 ≤ _ by omega)
      replace kT := kT.cur hg (show k6 ≠ g by omega)
      replace kZ := kZ.cur hg (show w.heap.size ≠ g by omega)
      replace hO := hO.cur hg (show g < w.heap.size + 1 by omega)
      replace hG := grown_trans hG hg
      clear hc hg n0
      have n1 := kT.cell 1 (.slice o R.length c) rfl
      go_wp2_with (first | (at_builtin; refine wpList_append_fresh rfl _ _ 24 rfl (w.heap.size + 1) 50 j0 (.slice none 0 0) 1 24 Tryz.underlying24 hj hy0 hy1 hy2 rfl (by decide) _ _ _ rfl (World.ownsRow.alloc hO.outer _) _ 1 1 [.slice o5 C.length c5] rfl rfl (World.news_of_block (cs := #[.slice o5 C.length c5]) (t := 50) (fr := (0, 0)) (heap_new_at (by simp))) (by intro u hu; simp at hu; subst hu; rfl) (by unfold maxLen; omega) (by omega) (by have := kT.lt; simp at this ⊢; omega) ?_; intro v7 w7 hown hgrow hfr; obtain ⟨⟨o7, c7, rfl⟩, s7, t7, kT7, hO7, av7, hc7, hG7, hoth, hblk⟩ := tab_snocG rfl hO hI apI kT av avI hc5 hG (Nat.le_succ _) (show w.heap.size ≤ k6 by omega) (show g < k6 by omega) hown hgrow hfr; have kZ7 := hblk _ _ _ kZ (show w.heap.size ≠ k6 by omega) (fun e => by have := (World.ownsRow.lt hO.outer _ e).1; omega); have hI7 := (hoth _ _ _ _ _ _ hI apI.1.symm avI).1; clear hown hgrow hfr hblk hoth) | fail)
      have hl7 : R.length + 1 = (R ++ [C]).length := by simp
      have HL7 : Hid (∀ j, j < (R ++ [C]).length → (row (R ++ [C]) j).length ≤ 5) := fun j hj => by
        by_cases h : j < R.length
        · rw [row_append_lt h]; exact HLn.out j h
        · have : j = R.length := by simp at hj; omega
          rw [this, row_append_end]; exact hC5
      refine (c_l1Once g 3 (by omega) _ hc7).mono ?_
      rintro e w8 ⟨t, rfl, hc8, hg⟩
      replace kT7 := kT7.cur hg (show k6 ≠ g by omega)
      replace kZ7 := kZ7.cur hg (show w.heap.size ≠ g by omega)
      replace hO7 := hO7.cur hg (show g < w.heap.size + 1 by omega)
      replace hI7 := owns_cur hI7 hg (show g < w.heap.size + 1 by omega)
      replace hG7 := grown_trans hG7 hg
      clear hc7 hg n1 s7 t7 kT hO hI kZ hG hc5 av apI avI
      rw [hl7] at kT7 hO7 av7
      have hP : (R ++ [C]).length ≤ 13 := by simp; omega
      have hPk : (R ++ [C]).length + 2 * k ≤ 13 := by simp; omega
      clear hl7
      generalize R ++ [C] = P at *
      generalize xs ++ [Value.slice o5 C.length c5] = ys at *
      cases t
      · go_wp2_with fail
        go_roundw
        case rel => exact ⟨k - 1, P, o7, c7, ys, by go_num, by omega, HL7.out, kT7, hO7, av7, hc8, hG7, kZ7⟩
        case measure => simp [intOf]; omega
      · have hk8 := kT7.lt
        have hba := (Below.refl w8.heap.size w8).alloc (Nat.le_refl _) (.cells #[] 3)
        have hE := OwnI.empty w8 w8.heap.size (Nat.le_refl _)
        obtain ⟨gr, rfl, _⟩ := OwnI.news (show OwnI w8 (w.heap.size + 1) (.slice o5 C.length c5) C from hI7) hC0
        have HB : Hid (∀ j u, (C.map encI)[j]? = some u → (w8.alloc (.cells #[] 3)).cell? ((⟨gr, 0, none⟩ : Addr).add j) = some u) := by
          obtain ⟨gr', e', h'⟩ := OwnI.news (OwnI.keep (show OwnI w8 (w.heap.size + 1) (.slice (some ⟨gr, 0, none⟩) C.length c5) C from hI7) hba) hC0
          cases e'; exact h'
        have old7 := hO7.old (Nat.le_refl _)
        go_wp2_with (first | (at_builtin; refine wpList_append_own _ rfl _ _ 50 rfl w8.heap.size 3 i0 (.int .i64 0) 1 8 Tryz.underlying50 hi hz0 hz1 hz2 rfl (by decide) (.slice (some ⟨w8.heap.size, 0, none⟩) 0 0) 0 [] rfl hE ⟨gr, 0, none⟩ C.length _ (C.map encI) rfl (by simp) HB.out (ones C) (by unfold maxLen; simp; omega) (by simp; omega) (by simp) ?_; intro v9 w9 hown hgrow _; have hX : OwnI w9 w8.heap.size v9 C := (by unfold OwnI; simpa using hown); have hb9 := hba.grown hgrow (by simp) (fun g hg => (World.ownsRow.lt hE g hg).1); clear hown hgrow; obtain ⟨o9, c9, rfl⟩ := hX.shape; have apX := OwnRows.fresh hO7 hX; replace kT7 := kT7.keep hb9; replace kZ7 := kZ7.keep hb9; replace hO7 := hO7.keep hb9; replace hc8 := hc8.keep hb9; replace hG7 := grown_trans hG7 (grown_of_below hb9 _); have n0 := kT7.cell 0 (.int .i64 N) rfl; clear hb9 hba hE) | fail)
        refine (c_l1Below g N (by omega) _ hc8).mono ?_
        rintro e w10 ⟨qj, rfl, hj0, hj1, _, hc10, hg⟩
        obtain ⟨jn, rfl⟩ := Int.eq_ofNat_of_zero_le hj0
        have hjC : jn < C.length := by have := hj1 (by omega); have := HCN.out; omega
        replace kT7 := kT7.cur hg (show k6 ≠ g by omega)
        replace kZ7 := kZ7.cur hg (show w.heap.size ≠ g by omega)
        replace hO7 := hO7.cur hg (show g < w.heap.size + 1 by omega)
        replace hX := hX.cur hg (show g < w8.heap.size by omega)
        replace hG7 := grown_trans hG7 hg
        clear hc8 hg n0 hj0 hj1
        go_wp2_with fail
        refine (c_l1Below g wd hw4 _ hc10).mono ?_
        rintro e w11 ⟨xv, rfl, _, _, _, hc11, hg⟩
        replace kT7 := kT7.cur hg (show k6 ≠ g by omega)
        replace kZ7 := kZ7.cur hg (show w.heap.size ≠ g by omega)
        replace hO7 := hO7.cur hg (show g < w.heap.size + 1 by omega)
        replace hX := hX.cur hg (show g < w8.heap.size by omega)
        replace hG7 := grown_trans hG7 hg
        clear hc10 hg
        obtain ⟨gx, rfl, _⟩ := hX.news hC0
        have hgx := (World.ownsRow.lt hX gx rfl).1
        have avx : Avoid gx (.slice o7 P.length c7) ys := fun y hy e => by have := old7 y hy _ e; omega
        obtain ⟨x1, x2⟩ := hX.cell rfl jn hjC
        replace hX := hX.store rfl jn xv
        replace kT7 := kT7.far ⟨gx, jn, none⟩ (.int .i64 xv) (show k6 ≠ gx by omega)
        replace kZ7 := kZ7.far ⟨gx, jn, none⟩ (.int .i64 xv) (show w.heap.size ≠ gx by omega)
        replace hO7 := ownRows_setAvoid hO7 avx jn (.int .i64 xv)
        replace hc11 := hc11.set (j := jn) (v := .int .i64 xv) (show g < gx by omega)
        replace hG7 := grown_new (j := jn) (v := .int .i64 xv) hG7 (show w.heap.size ≤ gx by omega)
        have hjj : (0 : Int) ≤ jn ∧ (jn : Int) < C.length := by omega
        have n1 := kT7.cell 1 (.slice o7 P.length c7) rfl
        have hyl := hO7.len
        replace hX := hX.based (show w.heap.size + 1 ≤ w8.heap.size by omega)
        have avX : (Value.slice (some ⟨gx, 0, none⟩) C.length c9).ownBlock ≠ some k6 := fun e9 => by simp [Value.ownBlock] at e9; omega
        go_wp2_with (first | (at_builtin; refine wpList_append_fresh rfl _ _ 24 rfl (w.heap.size + 1) 50 j0 (.slice none 0 0) 1 24 Tryz.underlying24 hj hy0 hy1 hy2 rfl (by decide) _ _ _ rfl (World.ownsRow.alloc hO7.outer _) _ 1 1 [.slice (some ⟨gx, 0, none⟩) C.length c9] rfl rfl (World.news_of_block (cs := #[.slice (some ⟨gx, 0, none⟩) C.length c9]) (t := 50) (fr := (0, 0)) (heap_new_at (by simp))) (by intro u hu; simp at hu; subst hu; rfl) (by unfold maxLen; omega) (by omega) (by have := kT7.lt; simp at this ⊢; omega) ?_; intro v12 w12 hown hgrow hfr; obtain ⟨⟨o8, c8, rfl⟩, s8, t8, kT8, hO8, av8, hc9, hG8, hoth, hblk⟩ := tab_snocG (show (C.set jn xv).length = C.length by simp) hO7 hX apX kT7 av7 avX hc11 hG7 (Nat.le_succ _) (show w.heap.size ≤ k6 by omega) (show g < k6 by omega) hown hgrow hfr; have kZ8 := hblk _ _ _ kZ7 (show w.heap.size ≠ k6 by omega) (fun e => by have := (World.ownsRow.lt hO7.outer _ e).1; omega); clear hown hgrow hfr hblk hoth) | fail)
        have hl8 : P.length + 1 = (P ++ [C.set jn xv]).length := by simp
        have HL8 : Hid (∀ j, j < (P ++ [C.set jn xv]).length → (row (P ++ [C.set jn xv]) j).length ≤ 5) := fun j hj => by
          by_cases h : j < P.length
          · rw [row_append_lt h]; exact HL7.out j h
          · have : j = P.length := by simp at hj; omega
            rw [this, row_append_end]; simpa using hC5
        rw [hl8] at kT8 hO8 av8
        have hPk8 : (P ++ [C.set jn xv]).length + 2 * (k - 1) ≤ 12 := by simp; omega
        clear hl8
        go_roundw
        case rel => exact ⟨k - 1, P ++ [C.set jn xv], o8, c8, _, by go_num, hPk8, HL8.out, by rw [show (P ++ [C.set jn xv]).length = P.length + 1 by simp] at *; exact kT8, by rw [show (P ++ [C.set jn xv]).length = P.length + 1 by simp] at *; exact hO8, by rw [show (P ++ [C.set jn xv]).length = P.length + 1 by simp] at *; exact av8, hc9, hG8, kZ8⟩
        case measure => simp [intOf]; omega
    · have HK : Hid (k = 0) := by show k = 0; omega
      have r0 := kT.cell 0 (.int .i64 N) rfl
      have r1 := kT.cell 1 (.slice o R.length c) rfl
      have z0 := kZ.cell 0 (.int .i64 0) rfl
      have z1 := kZ.cell 1 (.slice none 0 0) rfl
      have f0 := kZ.free 0
      have f1 := kZ.free 1
      have k2 : Blk _ w.heap.size #[.int .i64 N, .slice o R.length c] 26 := (kZ.set 0 (.int .i64 N)).set 1 (.slice o R.length c)
      have q0 := k2.cell 0 (.int .i64 N) rfl
      have q1 := k2.cell 1 (.slice o R.length c) rfl
      go_wp2
      refine bodyPost_ret (v := .agg #[.int .i64 N, .slice o R.length c]) (by simp only [results, Tryz.results86]; simp [go_sem, q0, q1]) rfl ?_
      exact ⟨N, o, c, xs, R, rfl, ((hO.far_set 0 (.int .i64 N) (Nat.lt_succ_self _)).far_set 1 (.slice o R.length c) (Nat.lt_succ_self _)).based (Nat.le_succ _), ⟨hN2.1, hN2.2, hRl, HLn.out⟩, (hc.set (j := 0) (v := .int .i64 N) hlt).set (j := 1) (v := .slice o R.length c) hlt, grown_new (j := 1) (v := .slice o R.length c) (grown_new (j := 0) (v := .int .i64 N) hG (Nat.le_refl _)) (Nat.le_refl _)⟩
end Go.Proofs.YtcenndlbhgfdfaaGreat
namespace Go.Proofs.YtcenndlbhgfdfaaGreat
open Go.RowKit
set_option linter.unusedVariables false
set_option maxRecDepth 100000

end Go.Proofs.YtcenndlbhgfdfaaGreat
namespace Go.Proofs.YtcenndlbhgfdfaaGreat
open Go.RowKit
set_option linter.unusedVariables false
set_option maxRecDepth 100000

theorem OwnD.setBelow {w : World} {B k j : Nat} {v u : Value} {D : List (Int × Int)} (h : OwnD w B v D) (hk : k < B) : OwnD (w.setCell ⟨k, j, none⟩ u) B v D := ownsRow_setCell_below h (a := ⟨k, j, none⟩) hk u
/-- What the three draws of a dependency answer. -/
def Draws3 (f : FuncId) (oa : Option Addr) (m cap : Nat) (w : World) : Prop :=
  Calls Tryz.prog f #[.slice oa m cap] w fun e w' => ∃ n o c D l r, e = .returned (.tuple #[.int .i64 n, .slice o (D.length : Nat) c, .agg #[.int .i64 l, .int .i64 r]]) ∧ OwnD w' w.heap.size (.slice o D.length c) D ∧ D.length ≤ 5 ∧ Below w.heap.size w w'
end Go.Proofs.YtcenndlbhgfdfaaGreat
