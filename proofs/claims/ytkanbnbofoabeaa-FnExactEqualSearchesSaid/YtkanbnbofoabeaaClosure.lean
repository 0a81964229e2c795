/- closure, of the program; l10Close, of the reference: both answer the closure. -/
import Derived.Test.YtkanbnbofoabeaaBasic
import Derived.Test.YtkanbnbofoabeaaOwn
import Derived.Test.YtkanbnbofoabeaaDeps
import Derived.Test.YtkanbnbofoabeaaClo
namespace Go.Proofs.Ytkanbnbofoabeaa
open Go.RowKit
set_option linter.unusedVariables false
set_option maxRecDepth 100000

theorem Val.at_ {D : List (Int × Int)} (h : Val D) {k : Nat} (hk : k < D.length) : St (nl D k) ∧ Co (nr D k) :=
  h (nl D k, nr D k) (List.mem_iff_getElem?.2 ⟨k, dnth_eq hk⟩)
theorem closed_of {D : List (Int × Int)} {x : Int} (h : ∀ j, j < D.length → ins (nl D j) x = true → hasc x (nr D j) = true) : Closed D x := by
  intro d hd hi
  obtain ⟨k, hk⟩ := List.mem_iff_getElem?.1 hd
  have hlt : k < D.length := by
    rcases Nat.lt_or_ge k D.length with h | h
    · exact h
    · rw [List.getElem?_eq_none h] at hk; cases hk
  rw [dnth_eq hlt] at hk
  cases hk
  exact h k hlt hi
theorem Closed.at_ {D : List (Int × Int)} {x : Int} (h : Closed D x) {k : Nat} (hk : k < D.length) (hi : ins (nl D k) x = true) : hasc x (nr D k) = true :=
  h (nl D k, nr D k) (List.mem_iff_getElem?.2 ⟨k, dnth_eq hk⟩) hi

theorem c_closure (oa) (cap : Nat) (D : List (Int × Int)) (s : Int) (w : World) (hD : DepsAt w oa D) (hs : St s) (hv : Val D) :
    Ans Try.prog 70 #[.slice oa D.length cap, .int .i64 s] w (.int .i64 (cloF D s)) := by
  unfold Ans
  have hn : D.length ≤ 1073741824 := hD.len
  go_enter Try.func70, Try.ntmps70
  go_wp2
  go_loopw [1, 5] (fun t i wr => ∃ (x : Int) (k : Nat), t = .int .i64 x ∧ i = .int .i64 k ∧ k ≤ D.length ∧ St x ∧ ins s x = true ∧ (∀ z, St z → ins s z = true → Closed D z → ins x z = true) ∧
    (∀ j, j < k → ins (nl D j) x = true → hasc x (nr D j) = true) ∧ Below w.heap.size w wr) (fun t i _ => (31 - (intOf t).toNat) * (D.length + 1) + (D.length - (intOf i).toNat))
  case atStart => exact ⟨s, 0, rfl, rfl, Nat.zero_le _, hs, ins_refl hs, fun z _ h _ => h, fun j hj => absurd hj (by omega), Below.refl _ _⟩
  case round =>
    obtain ⟨x, k, rfl, rfl, hk, hx, hu, hm, hall, hb⟩ := hrel
    have HU : Hid (ins s x = true) := hu
    have HM : Hid (∀ z, St z → ins s z = true → Closed D z → ins x z = true) := hm
    have HA : Hid (∀ j, j < k → ins (nl D j) x = true → hasc x (nr D j) = true) := hall
    clear hu hm hall
    by_cases hlt : k < D.length
    · obtain ⟨b, off, rfl, hbs, hc⟩ := hD.at_ (by omega)
      have hc1 := cell_keep (hc k hlt).1 hb
      have hc2 := cell_keep (hc k hlt).2 hb
      obtain ⟨hvl, hvr⟩ := hv.at_ hlt
      have hr0 : 0 ≤ nr D k := hvr.1
      have hr1 : nr D k < 5 := hvr.2
      have hr2 : 0 ≤ nr D k ∧ nr D k < 64 := ⟨hr0, by omega⟩
      have HC : Hid (∀ z, Closed D z → ins (nl D k) z = true → hasc z (nr D k) = true) := fun z h hi => h.at_ hlt hi
      clear hc
      cases hi : ins (nl D k) x
      · go_wp2_with (first | (go_at_call 119; refine Calls.mono (c_inside _ _ _) ?_; rintro e w1 ⟨rfl, hbn⟩; replace hc1 := cell_keep hc1 hbn; replace hc2 := cell_keep hc2 hbn; replace hb := bel_to (w := w) (by first | exact hb | exact hb.alloc hb.size _ | exact (hb.alloc hb.size _).alloc (Nat.le_trans hb.size (by simp)) _ | exact hb.setCell (by simp [hb.size]) _) hbn; clear hbn))
        go_roundw
        case rel => exact ⟨x, k + 1, rfl, by go_num, by omega, hx, HU.out, HM.out, lt_step (p := fun j => ins (nl D j) x = true → hasc x (nr D j) = true) HA.out (fun h => by rw [hi] at h; cases h), hb⟩
        case measure => simp [intOf]; omega
      · cases hh : hasc x (nr D k)
        · have hlt2 := uni_lt hx hvr hh
          have hst := uni_st hx (one_st hvr)
          have HST : Hid (St (uni x (one (nr D k)))) := hst
          have HLT : Hid (x < uni x (one (nr D k))) := hlt2
          clear hst hlt2
          go_wp2_with (first | (go_at_call 119; refine Calls.mono (c_inside _ _ _) ?_; rintro e w1 ⟨rfl, hbn⟩; replace hc1 := cell_keep hc1 hbn; replace hc2 := cell_keep hc2 hbn; replace hb := bel_to (w := w) (by first | exact hb | exact hb.alloc hb.size _ | exact (hb.alloc hb.size _).alloc (Nat.le_trans hb.size (by simp)) _ | exact hb.setCell (by simp [hb.size]) _) hbn; clear hbn) | (go_at_call 118; refine Calls.mono (c_has _ _ hr2 _) ?_; rintro e w1 ⟨rfl, hbn⟩; replace hc1 := cell_keep hc1 hbn; replace hc2 := cell_keep hc2 hbn; replace hb := bel_to (w := w) (by first | exact hb | exact hb.alloc hb.size _ | exact (hb.alloc hb.size _).alloc (Nat.le_trans hb.size (by simp)) _ | exact hb.setCell (by simp [hb.size]) _) hbn; clear hbn))
          go_roundw
          case rel => exact ⟨uni x (one (nr D k)), 0, rfl, rfl, by omega, HST.out, ins_trans hs hx HST.out HU.out (ins_uni_left hx (one_st hvr)),
            fun z hz h h' => uni_ins hx (one_st hvr) hz (HM.out z hz h h') (one_ins hvr hz (HC.out z h' (ins_trans hvl hx hz hi (HM.out z hz h h')))), fun j hj => absurd hj (by omega), hb⟩
          case measure =>
            have h1 := HLT.out
            have h2 := HST.out.1
            have h3 := HST.out.2
            have h4 := hx.1
            show (31 - (uni x (one (nr D k))).toNat) * (D.length + 1) + (D.length - 0) < (31 - x.toNat) * (D.length + 1) + (D.length - k)
            generalize uni x (one (nr D k)) = y at *
            obtain ⟨m, hm⟩ : ∃ m, 31 - x.toNat = (31 - y.toNat) + 1 + m := ⟨(31 - x.toNat) - (31 - y.toNat) - 1, by omega⟩
            rw [hm, Nat.add_mul, Nat.add_mul]
            omega
        · go_wp2_with (first | (go_at_call 119; refine Calls.mono (c_inside _ _ _) ?_; rintro e w1 ⟨rfl, hbn⟩; replace hc1 := cell_keep hc1 hbn; replace hc2 := cell_keep hc2 hbn; replace hb := bel_to (w := w) (by first | exact hb | exact hb.alloc hb.size _ | exact (hb.alloc hb.size _).alloc (Nat.le_trans hb.size (by simp)) _ | exact hb.setCell (by simp [hb.size]) _) hbn; clear hbn) | (go_at_call 118; refine Calls.mono (c_has _ _ hr2 _) ?_; rintro e w1 ⟨rfl, hbn⟩; replace hc1 := cell_keep hc1 hbn; replace hc2 := cell_keep hc2 hbn; replace hb := bel_to (w := w) (by first | exact hb | exact hb.alloc hb.size _ | exact (hb.alloc hb.size _).alloc (Nat.le_trans hb.size (by simp)) _ | exact hb.setCell (by simp [hb.size]) _) hbn; clear hbn))
          go_roundw
          case rel => exact ⟨x, k + 1, rfl, by go_num, by omega, hx, HU.out, HM.out, lt_step (p := fun j => ins (nl D j) x = true → hasc x (nr D j) = true) HA.out (fun _ => hh), hb⟩
          case measure => simp [intOf]; omega
    · have hkk : k = D.length := by omega
      have HE : Hid (x = cloF D s) := cloF_unique hv hs hx HU.out (closed_of (by rw [← hkk]; exact HA.out)) HM.out
      clear hkk
      go_wp2
      go_ret
      exact ⟨ret_int HE.out, hb⟩
theorem drop_step {D : List (Int × Int)} {k : Nat} (hk : k < D.length) (y : Int) : roundD (D.drop k) y = roundD (D.drop (k + 1)) (stepD y (nl D k, nr D k)) := by
  have e : D.drop k = (nl D k, nr D k) :: D.drop (k + 1) := by
    rw [List.drop_eq_getElem_cons hk]
    congr 1
    have := dnth_eq hk
    rw [List.getElem?_eq_getElem hk] at this
    exact Option.some.inj this
  rw [e]; rfl

set_option maxHeartbeats 400000 in
theorem c_l10Close (oa) (cap : Nat) (D : List (Int × Int)) (s : Int) (w : World) (hD : DepsAt w oa D) (hs : St s) (hv : Val D) :
    Ans Try.prog 65 #[.slice oa D.length cap, .int .i64 s] w (.int .i64 (cloF D s)) := by
  unfold Ans
  have hn : D.length ≤ 1073741824 := hD.len
  go_enter Try.func65, Try.ntmps65
  go_wp2
  go_loopw [1, 5] (fun t i wr => ∃ (x : Int) (j : Nat), t = .int .i64 x ∧ i = .int .i64 j ∧ j ≤ 6 ∧ St x ∧ roundsD D (6 - j) x = cloF D s ∧ Below w.heap.size w wr) (fun _ i _ => 6 - (intOf i).toNat)
  case atStart => exact ⟨s, 0, rfl, rfl, by omega, hs, rfl, Below.refl _ _⟩
  case round =>
    obtain ⟨x, j, rfl, rfl, hj, hx, hcl, hb⟩ := hrel
    have HC : Hid (roundsD D (6 - j) x = cloF D s) := hcl
    clear hcl
    by_cases hjl : j < 6
    · have HC' : Hid (roundsD D (6 - (j + 1)) (roundD D x) = cloF D s) := by
        have e : 6 - j = (6 - (j + 1)) + 1 := by omega
        have := HC.out; rw [e] at this; exact this
      clear HC
      go_wp2
      obtain ⟨wo, rfl⟩ : ∃ wo : World, wo = wr := ⟨_, rfl⟩
      go_loopw [1, 6] (fun t i wr => ∃ (y : Int) (k : Nat), t = .int .i64 y ∧ i = .int .i64 k ∧ k ≤ D.length ∧ St y ∧ roundD (D.drop k) y = roundD D x ∧ Below w.heap.size w wr) (fun _ i _ => D.length - (intOf i).toNat)
      case atStart => exact ⟨x, 0, rfl, rfl, by omega, hx, rfl, hb⟩
      case round =>
        clear hb
        obtain ⟨y, k, rfl, rfl, hk, hy, hro, hb⟩ := hrel
        have HR : Hid (roundD (D.drop k) y = roundD D x) := hro
        clear hro
        by_cases hlt : k < D.length
        · obtain ⟨b, off, rfl, hbs, hc⟩ := hD.at_ (by omega)
          have hc1 := cell_keep (hc k hlt).1 hb
          have hc2 := cell_keep (hc k hlt).2 hb
          obtain ⟨hvl, hvr⟩ := hv.at_ hlt
          have hr0 : 0 ≤ nr D k := hvr.1
          have hr1 : nr D k < 5 := hvr.2
          have HS := drop_step hlt y
          have HST : Hid (St (stepD y (nl D k, nr D k))) := stepD_st hy ⟨hvl, hvr⟩
          have HR2 : Hid (roundD (D.drop (k + 1)) (stepD y (nl D k, nr D k)) = roundD D x) := by rw [← HS]; exact HR.out
          clear hc HS
          cases hi : insA (nl D k) y
          · have hi2 : (bits BinOp.and IntKind.i64 (nl D k) y == nl D k) = false := hi
            have e : stepD y (nl D k, nr D k) = y := by unfold stepD; rw [if_neg (by rw [hi]; simp)]
            rw [e] at HST HR2
            clear e
            go_wp2_with fail
            (refine wp_region_after (by kernel_rfl) (by kernel_rfl) ?_; have q_hc1 := fun (x : After _) => cell_keep hc1 x.bel; have q_hc2 := fun (x : After _) => cell_keep hc2 x.bel; (repeat (go_big_quiet_step (fail))); clear q_hc1; clear q_hc2; refine wpQuiet_nil ?_; rintro _ ⟨⟨w1, hbn⟩, rfl⟩; (try simp only [After.w]); replace hc1 := cell_keep hc1 hbn; replace hc2 := cell_keep hc2 hbn; replace hb := bel_to (w := w) (by first | exact hb | exact hb.alloc hb.size _ | exact (hb.alloc hb.size _).alloc (Nat.le_trans hb.size (by simp)) _ | exact hb.setCell (by simp [hb.size]) _) hbn; clear hbn)
            go_wp2
            go_roundw
            case rel => exact ⟨y, k + 1, rfl, by go_num, by omega, hy, HR2.out, hb⟩
            case measure => simp [intOf]; omega
          · have hi2 : (bits BinOp.and IntKind.i64 (nl D k) y == nl D k) = true := hi
            have e : stepD y (nl D k, nr D k) = uni y (one (nr D k)) := by unfold stepD; rw [if_pos hi]
            rw [e] at HST HR2
            clear e
            go_wp2_with fail
            (refine wp_region_after (by kernel_rfl) (by kernel_rfl) ?_; have q_hc1 := fun (x : After _) => cell_keep hc1 x.bel; have q_hc2 := fun (x : After _) => cell_keep hc2 x.bel; (repeat (go_big_quiet_step (fail))); clear q_hc1; clear q_hc2; refine wpQuiet_nil ?_; rintro _ ⟨⟨w1, hbn⟩, rfl⟩; (try simp only [After.w]); replace hc1 := cell_keep hc1 hbn; replace hc2 := cell_keep hc2 hbn; replace hb := bel_to (w := w) (by first | exact hb | exact hb.alloc hb.size _ | exact (hb.alloc hb.size _).alloc (Nat.le_trans hb.size (by simp)) _ | exact hb.setCell (by simp [hb.size]) _) hbn; clear hbn)
            go_wp2
            go_roundw
            case rel => exact ⟨uni y (one (nr D k)), k + 1, rfl, by go_num, by omega, HST.out, HR2.out, hb⟩
            case measure => simp [intOf]; omega
        · have hkk : k = D.length := by omega
          have HY : Hid (y = roundD D x) := by have := HR.out; rw [hkk, List.drop_length] at this; exact this
          clear hkk
          go_wp2
          go_roundw
          case rel => exact ⟨y, j + 1, rfl, by go_num, by omega, hy, by rw [HY.out]; exact HC'.out, hb⟩
          case measure => simp [intOf]; omega
    · have hjj : j = 6 := by omega
      have HE : Hid (x = cloF D s) := by have := HC.out; rw [hjj] at this; exact this
      clear hjj
      go_wp2
      go_ret
      exact ⟨ret_int HE.out, hb⟩
end Go.Proofs.Ytkanbnbofoabeaa
