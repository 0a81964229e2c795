/- The law of HitsAll returns true for every list of ints and every int. -/
import Derived.Test.YtmdkbookcgkpaaaHits
import Derived.Test.YtmdkbookcgkpaaaEqInt
namespace Go.Proofs.Ytmdkbookcgkpaaa
open Go.RowKit
set_option linter.unusedVariables false

theorem own_reads {w : World} {base : Nat} {v : Value} {L : List Int} (h : OwnI w base v L) (hl : L.length ≤ Room) : ∃ oa cap, v = .slice oa L.length cap ∧ IntsAt w oa L := h.reads hl

theorem w_FnExactHitsAll (w : World) {v0 : Value} (w0 : InInts w v0) (a1 : Int) (wf1 : (Lit.int .i64 a1).wf = true) :
    Calls Try.prog 3 #[v0, .int .i64 a1] w fun e w' => e = .returned (.bool true) ∧ Below w.heap.size w w' := by
  obtain ⟨a0, len0, cap0, z0, rfl, w0⟩ := w0
  by_cases hbig : 1048576 < len0
  · go_enter Try.func3, Try.ntmps3
    go_wp2
    go_ret
    exact ⟨rfl, Below.refl _ _⟩
  · obtain ⟨L, rfl, hL⟩ := w0.ints (by unfold Room; omega)
    have hr := hL.len
    have hb := Below.refl w.heap.size w
    go_enter Try.func3, Try.ntmps3
    go_wp2_with fail
    refine (c_toIntS _ _ _ _ hL).mono ?_
    rintro e w1 ⟨v1, rfl, h1, hb1⟩
    obtain ⟨o1, c1, rfl, hL1⟩ := h1.reads hr
    clear h1
    go_wp2_with fail
    refine Calls.mono (a_specHitsAll _ _ _ _ _ hL1) ?_
    rintro e w2 ⟨rfl, hb2⟩
    replace hb := bel_to hb1 hb2
    clear hb1 hb2 hL1
    go_wp2_with fail
    refine (c_toIntS _ _ _ _ (hL.keep hb)).mono ?_
    rintro e w3 ⟨v3, rfl, h3, hb3⟩
    replace hb := bel_to hb hb3
    obtain ⟨o3, c3, rfl, hL3⟩ := h3.reads hr
    clear h3 hb3
    go_wp2_with fail
    refine Calls.mono (a_HitsAll _ _ _ _ _ hL3) ?_
    rintro e w4 ⟨rfl, hb4⟩
    replace hb := bel_to hb hb4
    replace hL3 := hL3.keep hb4
    clear hb4
    go_wp2_with fail
    refine (c_toIntS _ _ _ _ (hL.keep hb)).mono ?_
    rintro e w5 ⟨v5, rfl, h5, hb5⟩
    replace hb := bel_to hb hb5
    obtain ⟨o5, c5, rfl, hL5⟩ := h5.reads hr
    replace hL3 := hL3.keep hb5
    clear h5 hb5
    go_wp2_with fail
    refine Calls.mono (c_eqIntS _ _ _ _ _ _ _ hL3 hL5) ?_
    rintro e w6 ⟨rfl, hb6⟩
    replace hb := bel_to hb hb6
    have ht : (decide (L = L)) = true := by simp
    go_wp2
    go_ret
    exact ⟨rfl, hb⟩
end Go.Proofs.Ytmdkbookcgkpaaa
