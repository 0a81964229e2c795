/- Contracts and lemmas for FnExactApproximateDeps, part 5 of 5. -/
import Derived.Test.YtkanbnbofoabeaaQApproximateDeps1
import Derived.Test.YtkanbnbofoabeaaQApproximateDeps2
import Derived.Test.YtkanbnbofoabeaaQApproximateDeps3
import Derived.Test.YtkanbnbofoabeaaQApproximateDeps4
import Derived.Deep.RegionHeld3
namespace Go.Proofs.Ytkanbnbofoabeaa
open Go.ChangeShapes Go.WideShapes Go.ChangeAt Go.RowKit Go.Joins
set_option linter.unusedVariables false
set_option maxRecDepth 100000

def InTab (w : World) (v : Value) : Prop := ∃ (n : Int) (oa : Option Addr) (l c : Nat) (Ln : Nat → Nat), v = .agg #[.int .i64 n, .slice oa l c] ∧ RowsIn w oa l Ln
theorem open_table {H : Type} {enc : TypeId × Value → H} {W : World} {base : Nat} {held : Bool} {v : Value} {d : DataW H} {ps : List MemPlace} (hok : Value.okWide Try.prog W .any base 40 v)
    (h : DataW.Trod enc Try.prog W 0 (fun _ => true) held 40 v d ps) : InTab W v := by
  obtain ⟨c0, c1, y0, y1, m, rfl, rfl, rfl, hy0, hy1⟩ := open_agg2 Try.underlying40 (by kernel_rfl) (by kernel_rfl) hok h
  obtain ⟨z0, e0, _, w0⟩ := DataW.trod_int Try.underlying3 hy0
  simp at e0
  subst e0
  rcases Go.Deep.open_int_rows Try.underlying26 Try.underlying69 Try.underlying3 (by kernel_rfl) (by kernel_rfl) hy1 with ⟨hcs, _⟩ | ⟨a, len, cap, A, L, C, Z, hcs, _, hl, hm, _, hr⟩
  · simp at hcs
    subst hcs
    exact ⟨_, _, _, _, fun _ => 0, rfl, Nat.zero_le _, fun h => absurd h (by simp)⟩
  · simp at hcs
    subst hcs
    refine ⟨_, _, _, _, L, rfl, Nat.le_trans hl hm, fun h0 => ?_⟩
    obtain ⟨b, off, spot⟩ := a
    have hc := (hr 0 (by omega)).1
    have hspot : spot = none := by simpa [Addr.add] using World.cell?_spot hc
    subst hspot
    refine ⟨b, off, rfl, World.block_lt_of_cell? W ⟨b, off, none⟩ (by simpa [Addr.add] using hc), fun r hrl => ?_⟩
    obtain ⟨h1, h2, h3, h4, h5, h6, h7⟩ := hr r (by omega)
    rw [add_at] at h1
    refine ⟨Nat.le_trans h2 h3, A r, C r, h1, fun hroom => ?_⟩
    refine IsRow.ints (cap := C r) (zs := Z r) ?_ hroom
    cases hA : A r with
    | none =>
      have hz : C r = 0 := h6 hA
      refine .inl ⟨rfl, by omega, hz, List.eq_nil_of_length_eq_zero (by omega)⟩
    | some a' =>
      obtain ⟨_, hcell⟩ := h7 a' hA
      exact .inr ⟨a', rfl, h2, h3, h4, fun i hi => hcell i (by omega), h5⟩
theorem RowsIn.keep {w w' : World} {oa : Option Addr} {l : Nat} {Ln : Nat → Nat} (h : RowsIn w oa l Ln) (hk : Below w.heap.size w w') : RowsIn w' oa l Ln :=
  ⟨h.len, fun h0 => by
    obtain ⟨b, off, e, hlt, hr⟩ := h.rows h0
    exact ⟨b, off, e, Nat.lt_of_lt_of_le hlt hk.size, fun r hrl => by
      obtain ⟨m, o, c, h1, h2⟩ := hr r hrl
      exact ⟨m, o, c, cell_keep h1 hk, fun hq => by
        obtain ⟨L, e1, e2⟩ := h2 hq
        exact ⟨L, e1, e2.keep hk⟩⟩⟩⟩
end Go.Proofs.Ytkanbnbofoabeaa
namespace Go.Proofs.Ytkanbnbofoabeaa
open Go.RowKit
set_option linter.unusedVariables false
set_option maxRecDepth 100000

set_option maxHeartbeats 3200000 in
theorem w_FnExactApproximateDeps (w : World) {vT : Value} (inT : InTab w vT) (m : Int) (wf_m : (Lit.int .i64 m).wf = true) (q : Int) (wf_q : (Lit.int .i64 q).wf = true) :
    Calls Try.prog 12 #[vT, .int .i64 m, .int .i64 q] w fun e w' => e = .returned (.bool true) ∧ Below w.heap.size w w' := by
  obtain ⟨n, oT, lT, cT, Ln, rfl, hRI⟩ := inT
  have hb := (Below.refl w.heap.size w).alloc (Nat.le_refl _) (.cells #[.int .i64 n, .slice oT lT cT] 40)
  have tb0 := box_at w #[.int .i64 n, .slice oT lT cT] 40 0 _ rfl
  have tb1 := box_at w #[.int .i64 n, .slice oT lT cT] 40 1 _ rfl
  go_enter Try.func12, Try.ntmps12
  go_wp2_with fail
  refine (c_szTables n _ _ _ _ _ (hRI.keep hb)).mono ?_
  rintro e w0 ⟨⟨x, rfl, hx⟩, hbn⟩
  replace tb0 := cell_keep tb0 hbn
  replace tb1 := cell_keep tb1 hbn
  replace hb := bel_to hb hbn
  clear hbn
  rcases hx with rfl | ⟨hx0, hx1, hx2, hx3⟩
  · go_wp2
    go_ret
    exact ⟨rfl, hb⟩
  obtain ⟨R, rfl, hR, hRl⟩ := hRI.reads (by unfold Room; omega) (fun r hr => by have := sumN_one (Ln := Ln) hr; unfold Room; omega)
  have hsum : (sumL R R.length : Int) ≤ 1048576 := by rw [sumL_sumN hRl R.length (Nat.le_refl _)]; omega
  have hRoom : R.length ≤ Room := hR.len
  have HRr : Hid (∀ j, j < R.length → (row R j).length ≤ Room) := fun j hj => by rw [hRl j hj]; have := sumN_one (Ln := Ln) hj; unfold Room; omega
  have hlen : (apprF n R m q).length ≤ Room := appr_len n R m q
  clear hx3 hRl hRI hx2
  generalize hL0 : apprF n R m q = L0 at *
  have hqm : ((1 : Int) + 2 * (L0.length : Int) != 1 + 2 * (L0.length : Int)) = false := by simp
  have hlt1 : ¬ ((1 : Int) + 2 * (L0.length : Int) < 0) := by omega
  have hk0 : ¬ ((1 : Int) + (sumL R R.length : Int) < 0) := by omega
  go_wp2_with fail
  refine (c_toTable n _ _ R _ (hR.keep hb)).mono ?_
  rintro e w1 ⟨o_sT, c_sT, rfl, sT, hbn⟩
  replace tb0 := cell_keep tb0 hbn
  replace tb1 := cell_keep tb1 hbn
  replace hb := bel_to hb hbn
  clear hbn
  go_wp2_with fail
  have hbase := World.block_lt_of_cell? _ _ tb0
  refine (c_specApproximateDeps n _ _ R m q _ sT).mono ?_
  rw [hL0]
  rintro e w2 ⟨v2, rfl, wO, hbn⟩
  replace tb0 := cell_keep tb0 hbn
  replace tb1 := cell_keep tb1 hbn
  replace sT := sT.keep hbn
  replace wO := wO.based (show w.heap.size + 1 ≤ _ from hbase)
  replace hb := bel_to hb hbn
  obtain ⟨o_wO, c_wO, rfl⟩ := wO.shape
  clear hbn hbase
  clear sT
  go_wp2_with fail
  have old_wO := wO
  have hbase := World.block_lt_of_cell? _ _ tb0
  refine (c_toTableO n _ _ R _ (hR.keep hb)).mono ?_
  rintro e w3 ⟨o_x, c_x, xs, rfl, xO, hbn⟩
  have ap_w := OwnRows.before old_wO xO
  clear old_wO
  replace tb0 := cell_keep tb0 hbn
  replace tb1 := cell_keep tb1 hbn
  replace wO := wO.keep hbn
  replace xO := xO.based (show w.heap.size + 1 ≤ _ from hbase)
  replace hb := bel_to hb hbn
  clear hbn hbase
  have hcx : R.length ≤ c_x := xO.cap
  have bx0 := box_at w3 #[.int .i64 n, .slice o_x R.length c_x] 28 0 _ rfl
  have bx1 := box_at w3 #[.int .i64 n, .slice o_x R.length c_x] 28 1 _ rfl
  have hbn := (Below.refl w3.heap.size w3).alloc (Nat.le_refl _) (.cells #[.int .i64 n, .slice o_x R.length c_x] 28)
  replace tb0 := cell_keep tb0 hbn
  replace tb1 := cell_keep tb1 hbn
  replace wO := wO.keep hbn
  replace xO := xO.keep hbn
  replace hb := bel_to hb hbn
  clear hbn
  have old_wO := wO
  have old_xO := xO
  go_wp2_with fail
  have hbase := World.block_lt_of_cell? _ _ tb0
  refine (c_ApproximateDeps n _ _ R m q _ (xO.read hRoom HRr.out)).mono ?_
  rw [hL0]
  rintro e w4 ⟨v4, rfl, gO, hbn⟩
  have ap_g := OwnRows.behind old_xO gO
  clear old_xO
  have ap_wO_gO := apart_old old_wO gO
  clear old_wO
  replace tb0 := cell_keep tb0 hbn
  replace tb1 := cell_keep tb1 hbn
  replace bx0 := cell_keep bx0 hbn
  replace bx1 := cell_keep bx1 hbn
  replace wO := wO.keep hbn
  replace xO := xO.keep hbn
  replace gO := gO.based (show w.heap.size + 1 ≤ _ from hbase)
  replace hb := bel_to hb hbn
  obtain ⟨o_gO, c_gO, rfl⟩ := gO.shape
  clear hbn hbase
  go_wp2_with fail
  refine Calls.mono (Ans.eqb (b' := true) (c_eqDepS _ _ _ _ _ _ _ (gO.deps rfl hlen) (wO.deps rfl hlen)) (by simp)) ?_
  rintro e w5 ⟨rfl, hbn⟩
  replace tb0 := cell_keep tb0 hbn
  replace tb1 := cell_keep tb1 hbn
  replace bx0 := cell_keep bx0 hbn
  replace bx1 := cell_keep bx1 hbn
  replace wO := wO.keep hbn
  replace xO := xO.keep hbn
  replace gO := gO.keep hbn
  replace hb := bel_to hb hbn
  clear hbn
  go_wp2_with fail
  go_region_held3 (fun w' => w'.cell? ⟨w.heap.size, 0, none⟩ = some (.int .i64 n) ∧ w'.cell? ⟨w.heap.size, 1, none⟩ = some (.slice oT R.length cT) ∧ w'.cell? ⟨w3.heap.size, 0, none⟩ = some (.int .i64 n) ∧ w'.cell? ⟨w3.heap.size, 1, none⟩ = some (.slice o_x R.length c_x) ∧ Below w.heap.size w w' ∧ OwnRows w' (w.heap.size + 1) (.slice o_x R.length c_x) xs R ∧ OwnD w' (w.heap.size + 1) (.slice o_gO L0.length c_gO) L0 ∧ OwnD w' (w.heap.size + 1) (.slice o_wO L0.length c_wO) L0)
    (first | (rename_i hS _ _; exact ⟨cell_keep hS.1 hbn, cell_keep hS.2.1 hbn, cell_keep hS.2.2.1 hbn, cell_keep hS.2.2.2.1 hbn, bel_to hS.2.2.2.2.1 hbn, hS.2.2.2.2.2.1.keep hbn, hS.2.2.2.2.2.2.1.keep hbn, hS.2.2.2.2.2.2.2.keep hbn⟩) | exact ⟨cell_keep tb0 (Below.refl _ _).drew, cell_keep tb1 (Below.refl _ _).drew, cell_keep bx0 (Below.refl _ _).drew, cell_keep bx1 (Below.refl _ _).drew, hb.drew, xO.keep (Below.refl _ _).drew, gO.keep (Below.refl _ _).drew, wO.keep (Below.refl _ _).drew⟩)
    (first
      | (go_at_call 28; rename_i hS _ _; refine (c_toTable n _ _ R _ (hR.keep hS.2.2.2.2.1)).mono ?_; rintro e wz ⟨o1, c1, rfl, h1, hbn⟩)
      | (go_at_call 21; rename_i hS _ _; refine Calls.mono (c_eqTable n _ _ _ _ R _ (hS.2.2.2.2.2.1.read hRoom HRr.out) h1) ?_; rintro e wz ⟨rfl, hbn⟩)
      | fail)
  rename_i hS
  replace tb0 := hS.1
  replace tb1 := hS.2.1
  replace bx0 := hS.2.2.1
  replace bx1 := hS.2.2.2.1
  replace hb := hS.2.2.2.2.1
  replace xO := hS.2.2.2.2.2.1
  replace gO := hS.2.2.2.2.2.2.1
  replace wO := hS.2.2.2.2.2.2.2
  clear hS hbn
  go_wp2_with fail
  have low := xO.low
  refine (c_markTable n _ _ _ xs R _ _ xO hRoom (by omega)).mono ?_
  rintro e w6 ⟨rfl, _, hg⟩
  replace wO := OwnD.many wO hg ap_w
  replace gO := OwnD.many gO hg ap_g
  replace tb0 := cell_many tb0 hg low (Nat.lt_succ_self _)
  replace tb1 := cell_many tb1 hg low (Nat.lt_succ_self _)
  replace hb := below_many hb (Nat.le_refl _) hg (fun y hy g hk => Nat.le_of_succ_le (low y hy g hk))
  clear hg low ap_w ap_g bx0 bx1 xO
  go_wp2_with fail
  refine Calls.mono (Ans.eqb (b' := true) (c_eqDepS _ _ _ _ _ _ _ (gO.deps rfl hlen) (wO.deps rfl hlen)) (by simp)) ?_
  rintro e w7 ⟨rfl, hbn⟩
  replace tb0 := cell_keep tb0 hbn
  replace tb1 := cell_keep tb1 hbn
  replace wO := wO.keep hbn
  replace gO := gO.keep hbn
  replace hb := bel_to hb hbn
  clear hbn
  go_wp2_with fail
  refine (c_markDepS _ _ _ _ _ (by omega) _ hlen gO).mono ?_
  rintro e w8 ⟨rfl, hm8, hg⟩
  replace wO := wO.far hg ap_wO_gO
  replace tb0 := cell_gr tb0 gO (Nat.lt_succ_self _) hg
  replace tb1 := cell_gr tb1 gO (Nat.lt_succ_self _) hg
  replace hb := hb.grown hg hb.size (fun g hk => Nat.le_of_succ_le (World.ownsRow.lt gO g hk).1)
  replace gO := hm8
  clear hg
  go_wp2_with fail
  refine Calls.mono (c_heldDepS _ _ _ _ (by omega) _ (gO.deps (seqD_length _ _).symm (by rw [seqD_length]; exact hlen))) ?_
  rintro e w9 ⟨rfl, hbn⟩
  replace tb0 := cell_keep tb0 hbn
  replace tb1 := cell_keep tb1 hbn
  replace wO := wO.keep hbn
  replace gO := gO.keep hbn
  replace hb := bel_to hb hbn
  clear hbn
  go_wp2_with fail
  refine (c_toTableO n _ _ R _ (hR.keep hb)).mono ?_
  rintro e w10 ⟨o_u, c_u, us, rfl, uO, hbn⟩
  replace tb0 := cell_keep tb0 hbn
  replace tb1 := cell_keep tb1 hbn
  replace wO := wO.keep hbn
  replace gO := gO.keep hbn
  replace hb := bel_to hb hbn
  have hcu : R.length ≤ c_u := uO.cap
  clear hbn
  go_wp2_with fail
  have hbase := World.block_lt_of_cell? _ _ tb0
  refine (c_ApproximateDeps n _ _ R m q _ (uO.read hRoom HRr.out)).mono ?_
  rw [hL0]
  rintro e w11 ⟨v11, rfl, hO, hbn⟩
  replace tb0 := cell_keep tb0 hbn
  replace tb1 := cell_keep tb1 hbn
  replace wO := wO.keep hbn
  replace gO := gO.keep hbn
  replace uO := uO.keep hbn
  replace hO := hO.based (show w.heap.size + 1 ≤ _ from hbase)
  replace hb := bel_to hb hbn
  obtain ⟨o_hO, c_hO, rfl⟩ := hO.shape
  clear hbn hbase
  go_wp2_with fail
  refine Calls.mono (Ans.eqb (b' := true) (c_eqDepS _ _ _ _ _ _ _ (hO.deps rfl hlen) (wO.deps rfl hlen)) (by simp)) ?_
  rintro e w12 ⟨rfl, hbn⟩
  replace tb0 := cell_keep tb0 hbn
  replace tb1 := cell_keep tb1 hbn
  replace wO := wO.keep hbn
  replace gO := gO.keep hbn
  replace uO := uO.keep hbn
  replace hO := hO.keep hbn
  replace hb := bel_to hb hbn
  clear hbn
  go_wp2_with fail
  refine Calls.mono (c_heldDepS _ _ _ _ (by omega) _ (gO.deps (seqD_length _ _).symm (by rw [seqD_length]; exact hlen))) ?_
  rintro e w13 ⟨rfl, hbn⟩
  replace tb0 := cell_keep tb0 hbn
  replace tb1 := cell_keep tb1 hbn
  replace wO := wO.keep hbn
  replace gO := gO.keep hbn
  replace uO := uO.keep hbn
  replace hO := hO.keep hbn
  replace hb := bel_to hb hbn
  clear hbn
  go_wp2
  go_ret
  exact ⟨rfl, hb⟩
end Go.Proofs.Ytkanbnbofoabeaa
