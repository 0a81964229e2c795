/- The law of MinimalKeys returns true. -/
import Derived.Test.YtkanbnbofoabeaaMKeys
import Derived.Test.YtkanbnbofoabeaaOwnR3
import Derived.Test.YtkanbnbofoabeaaOpenTab
import Derived.Test.YtkanbnbofoabeaaMark
import Derived.Test.YtkanbnbofoabeaaEqInt
import Derived.Deep.RegionHeld3
namespace Go.Proofs.Ytkanbnbofoabeaa
open Go.RowKit
set_option linter.unusedVariables false
set_option maxRecDepth 100000

set_option maxHeartbeats 3200000 in
theorem w_FnExactMinimalKeys (w : World) {vT : Value} (inT : InTab w vT) (m : Int) (wf_m : (Lit.int .i64 m).wf = true) :
    Calls Try.prog 14 #[vT, .int .i64 m] w fun e w' => e = .returned (.bool true) ∧ Below w.heap.size w w' := by
  obtain ⟨n, oT, lT, cT, Ln, rfl, hRI⟩ := inT
  have hb := (Below.refl w.heap.size w).alloc (Nat.le_refl _) (.cells #[.int .i64 n, .slice oT lT cT] 40)
  have tb0 := box_at w #[.int .i64 n, .slice oT lT cT] 40 0 _ rfl
  have tb1 := box_at w #[.int .i64 n, .slice oT lT cT] 40 1 _ rfl
  go_enter Try.func14, Try.ntmps14
  go_wp2_with fail
  refine (c_szTables n _ _ _ _ _ (hRI.keep hb)).mono ?_
  rintro e w0 ⟨⟨x, rfl, hx⟩, hbn⟩
  replace tb0 := cell_keep tb0 hbn
  replace tb1 := cell_keep tb1 hbn
  replace hb := bel_to hb hbn
  clear hbn
  rcases hx with rfl | ⟨hx0, hx1, hx2, hx3⟩
  · go_wp2
    go_ret
    exact ⟨rfl, hb⟩
  obtain ⟨R, rfl, hR, hRl⟩ := hRI.reads (by unfold Room; omega) (fun r hr => by have := sumN_one (Ln := Ln) hr; unfold Room; omega)
  have hsum : (sumL R R.length : Int) ≤ 1048576 := by rw [sumL_sumN hRl R.length (Nat.le_refl _)]; omega
  have hRoom : R.length ≤ Room := hR.len
  have HRr : Hid (∀ j, j < R.length → (row R j).length ≤ Room) := fun j hj => by rw [hRl j hj]; have := sumN_one (Ln := Ln) hj; unfold Room; omega
  have hlen : (mkeysF n R m).length ≤ Room := mkeys_len n R m
  clear hx3 hRl hRI hx2
  generalize hL0 : mkeysF n R m = L0 at *
  have hqm : ((1 : Int) + (L0.length : Int) != 1 + (L0.length : Int)) = false := by simp
  have hlt1 : ¬ ((1 : Int) + (L0.length : Int) < 0) := by omega
  have hk0 : ¬ ((1 : Int) + (sumL R R.length : Int) < 0) := by omega
  go_wp2_with fail
  refine (c_toTable n _ _ R _ (hR.keep hb)).mono ?_
  rintro e w1 ⟨o_sT, c_sT, rfl, sT, hbn⟩
  replace tb0 := cell_keep tb0 hbn
  replace tb1 := cell_keep tb1 hbn
  replace hb := bel_to hb hbn
  clear hbn
  go_wp2_with fail
  have hbase := World.block_lt_of_cell? _ _ tb0
  refine (c_specMinimalKeys n _ _ R m _ sT).mono ?_
  rw [hL0]
  rintro e w2 ⟨v2, rfl, wO, hbn⟩
  replace tb0 := cell_keep tb0 hbn
  replace tb1 := cell_keep tb1 hbn
  replace sT := sT.keep hbn
  replace wO := wO.based (show w.heap.size + 1 ≤ _ from hbase)
  replace hb := bel_to hb hbn
  obtain ⟨o_wO, c_wO, rfl⟩ := wO.shape
  clear hbn hbase
  clear sT
  go_wp2_with fail
  have old_wO := wO
  have hbase := World.block_lt_of_cell? _ _ tb0
  refine (c_toTableO n _ _ R _ (hR.keep hb)).mono ?_
  rintro e w3 ⟨o_x, c_x, xs, rfl, xO, hbn⟩
  have ap_w := OwnRows.before old_wO xO
  clear old_wO
  replace tb0 := cell_keep tb0 hbn
  replace tb1 := cell_keep tb1 hbn
  replace wO := wO.keep hbn
  replace xO := xO.based (show w.heap.size + 1 ≤ _ from hbase)
  replace hb := bel_to hb hbn
  clear hbn hbase
  have hcx : R.length ≤ c_x := xO.cap
  have bx0 := box_at w3 #[.int .i64 n, .slice o_x R.length c_x] 28 0 _ rfl
  have bx1 := box_at w3 #[.int .i64 n, .slice o_x R.length c_x] 28 1 _ rfl
  have hbn := (Below.refl w3.heap.size w3).alloc (Nat.le_refl _) (.cells #[.int .i64 n, .slice o_x R.length c_x] 28)
  replace tb0 := cell_keep tb0 hbn
  replace tb1 := cell_keep tb1 hbn
  replace wO := wO.keep hbn
  replace xO := xO.keep hbn
  replace hb := bel_to hb hbn
  clear hbn
  have old_wO := wO
  have old_xO := xO
  go_wp2_with fail
  have hbase := World.block_lt_of_cell? _ _ tb0
  refine (c_MinimalKeys n _ _ R m _ (xO.read hRoom HRr.out)).mono ?_
  rw [hL0]
  rintro e w4 ⟨v4, rfl, gO, hbn⟩
  have ap_g := OwnRows.behind old_xO gO
  clear old_xO
  have ap_wO_gO := apart_old old_wO gO
  clear old_wO
  replace tb0 := cell_keep tb0 hbn
  replace tb1 := cell_keep tb1 hbn
  replace bx0 := cell_keep bx0 hbn
  replace bx1 := cell_keep bx1 hbn
  replace wO := wO.keep hbn
  replace xO := xO.keep hbn
  replace gO := gO.based (show w.heap.size + 1 ≤ _ from hbase)
  replace hb := bel_to hb hbn
  obtain ⟨o_gO, c_gO, rfl⟩ := gO.shape
  clear hbn hbase
  go_wp2_with fail
  refine Calls.mono (Ans.eqb (b' := true) (c_eqIntS _ _ _ _ _ _ _ (gO.ints rfl hlen) (wO.ints rfl hlen)) (by simp)) ?_
  rintro e w5 ⟨rfl, hbn⟩
  replace tb0 := cell_keep tb0 hbn
  replace tb1 := cell_keep tb1 hbn
  replace bx0 := cell_keep bx0 hbn
  replace bx1 := cell_keep bx1 hbn
  replace wO := wO.keep hbn
  replace xO := xO.keep hbn
  replace gO := gO.keep hbn
  replace hb := bel_to hb hbn
  clear hbn
  go_wp2_with fail
  go_region_held3 (fun w' => w'.cell? ⟨w.heap.size, 0, none⟩ = some (.int .i64 n) ∧ w'.cell? ⟨w.heap.size, 1, none⟩ = some (.slice oT R.length cT) ∧ w'.cell? ⟨w3.heap.size, 0, none⟩ = some (.int .i64 n) ∧ w'.cell? ⟨w3.heap.size, 1, none⟩ = some (.slice o_x R.length c_x) ∧ Below w.heap.size w w' ∧ OwnRows w' (w.heap.size + 1) (.slice o_x R.length c_x) xs R ∧ OwnI w' (w.heap.size + 1) (.slice o_gO L0.length c_gO) L0 ∧ OwnI w' (w.heap.size + 1) (.slice o_wO L0.length c_wO) L0)
    (first | (rename_i hS _ _; exact ⟨cell_keep hS.1 hbn, cell_keep hS.2.1 hbn, cell_keep hS.2.2.1 hbn, cell_keep hS.2.2.2.1 hbn, bel_to hS.2.2.2.2.1 hbn, hS.2.2.2.2.2.1.keep hbn, hS.2.2.2.2.2.2.1.keep hbn, hS.2.2.2.2.2.2.2.keep hbn⟩) | exact ⟨cell_keep tb0 (Below.refl _ _).drew, cell_keep tb1 (Below.refl _ _).drew, cell_keep bx0 (Below.refl _ _).drew, cell_keep bx1 (Below.refl _ _).drew, hb.drew, xO.keep (Below.refl _ _).drew, gO.keep (Below.refl _ _).drew, wO.keep (Below.refl _ _).drew⟩)
    (first
      | (go_at_call 28; rename_i hS _ _; refine (c_toTable n _ _ R _ (hR.keep hS.2.2.2.2.1)).mono ?_; rintro e wz ⟨o1, c1, rfl, h1, hbn⟩)
      | (go_at_call 21; rename_i hS _ _; refine Calls.mono (c_eqTable n _ _ _ _ R _ (hS.2.2.2.2.2.1.read hRoom HRr.out) h1) ?_; rintro e wz ⟨rfl, hbn⟩)
      | fail)
  rename_i hS
  replace tb0 := hS.1
  replace tb1 := hS.2.1
  replace bx0 := hS.2.2.1
  replace bx1 := hS.2.2.2.1
  replace hb := hS.2.2.2.2.1
  replace xO := hS.2.2.2.2.2.1
  replace gO := hS.2.2.2.2.2.2.1
  replace wO := hS.2.2.2.2.2.2.2
  clear hS hbn
  go_wp2_with fail
  have low := xO.low
  refine (c_markTable n _ _ _ xs R _ _ xO hRoom (by omega)).mono ?_
  rintro e w6 ⟨rfl, _, hg⟩
  replace wO := wO.many hg ap_w
  replace gO := gO.many hg ap_g
  replace tb0 := cell_many tb0 hg low (Nat.lt_succ_self _)
  replace tb1 := cell_many tb1 hg low (Nat.lt_succ_self _)
  replace hb := below_many hb (Nat.le_refl _) hg (fun y hy g hk => Nat.le_of_succ_le (low y hy g hk))
  clear hg low ap_w ap_g bx0 bx1 xO
  go_wp2_with fail
  refine Calls.mono (Ans.eqb (b' := true) (c_eqIntS _ _ _ _ _ _ _ (gO.ints rfl hlen) (wO.ints rfl hlen)) (by simp)) ?_
  rintro e w7 ⟨rfl, hbn⟩
  replace tb0 := cell_keep tb0 hbn
  replace tb1 := cell_keep tb1 hbn
  replace wO := wO.keep hbn
  replace gO := gO.keep hbn
  replace hb := bel_to hb hbn
  clear hbn
  go_wp2_with fail
  refine (c_markIntS _ _ _ _ _ (by omega) _ hlen gO).mono ?_
  rintro e w8 ⟨rfl, hm8, hg⟩
  replace wO := wO.far hg ap_wO_gO
  replace tb0 := cell_gr tb0 gO (Nat.lt_succ_self _) hg
  replace tb1 := cell_gr tb1 gO (Nat.lt_succ_self _) hg
  replace hb := hb.grown hg hb.size (fun g hk => Nat.le_of_succ_le (World.ownsRow.lt gO g hk).1)
  replace gO := hm8
  clear hg
  go_wp2_with fail
  refine Calls.mono (c_heldIntS _ _ _ _ (by omega) _ (gO.ints (seqI_length _ _).symm (by rw [seqI_length]; exact hlen))) ?_
  rintro e w9 ⟨rfl, hbn⟩
  replace tb0 := cell_keep tb0 hbn
  replace tb1 := cell_keep tb1 hbn
  replace wO := wO.keep hbn
  replace gO := gO.keep hbn
  replace hb := bel_to hb hbn
  clear hbn
  go_wp2_with fail
  refine (c_toTableO n _ _ R _ (hR.keep hb)).mono ?_
  rintro e w10 ⟨o_u, c_u, us, rfl, uO, hbn⟩
  replace tb0 := cell_keep tb0 hbn
  replace tb1 := cell_keep tb1 hbn
  replace wO := wO.keep hbn
  replace gO := gO.keep hbn
  replace hb := bel_to hb hbn
  have hcu : R.length ≤ c_u := uO.cap
  clear hbn
  go_wp2_with fail
  have hbase := World.block_lt_of_cell? _ _ tb0
  refine (c_MinimalKeys n _ _ R m _ (uO.read hRoom HRr.out)).mono ?_
  rw [hL0]
  rintro e w11 ⟨v11, rfl, hO, hbn⟩
  replace tb0 := cell_keep tb0 hbn
  replace tb1 := cell_keep tb1 hbn
  replace wO := wO.keep hbn
  replace gO := gO.keep hbn
  replace uO := uO.keep hbn
  replace hO := hO.based (show w.heap.size + 1 ≤ _ from hbase)
  replace hb := bel_to hb hbn
  obtain ⟨o_hO, c_hO, rfl⟩ := hO.shape
  clear hbn hbase
  go_wp2_with fail
  refine Calls.mono (Ans.eqb (b' := true) (c_eqIntS _ _ _ _ _ _ _ (hO.ints rfl hlen) (wO.ints rfl hlen)) (by simp)) ?_
  rintro e w12 ⟨rfl, hbn⟩
  replace tb0 := cell_keep tb0 hbn
  replace tb1 := cell_keep tb1 hbn
  replace wO := wO.keep hbn
  replace gO := gO.keep hbn
  replace uO := uO.keep hbn
  replace hO := hO.keep hbn
  replace hb := bel_to hb hbn
  clear hbn
  go_wp2_with fail
  refine Calls.mono (c_heldIntS _ _ _ _ (by omega) _ (gO.ints (seqI_length _ _).symm (by rw [seqI_length]; exact hlen))) ?_
  rintro e w13 ⟨rfl, hbn⟩
  replace tb0 := cell_keep tb0 hbn
  replace tb1 := cell_keep tb1 hbn
  replace wO := wO.keep hbn
  replace gO := gO.keep hbn
  replace uO := uO.keep hbn
  replace hO := hO.keep hbn
  replace hb := bel_to hb hbn
  clear hbn
  go_wp2
  go_ret
  exact ⟨rfl, hb⟩
end Go.Proofs.Ytkanbnbofoabeaa
