/- HitsAll, of the program and of the reference, and what the exact laws do with lists of ints. -/
import Derived.Test.YtmdkbookcgkpaaaBasic
import Derived.Test.YtmdkbookcgkpaaaOwn
namespace Go.Proofs.Ytmdkbookcgkpaaa
open Go.RowKit
set_option linter.unusedVariables false

/-- x & y == 0 -/
def apart (x y : Int) : Bool := bits BinOp.and .i64 x y == 0
def hitsF (L : List Int) (x : Int) : Bool := L.all fun e => !apart e x
def setsF (L : List Int) : Bool := L.all stB

theorem all_take_succ (p : Int → Bool) (L : List Int) (k : Nat) (hk : k < L.length) : (L.take (k + 1)).all p = ((L.take k).all p && p (nth L k)) := by
  rw [List.take_add_one, nth_eq hk]; simp
theorem all_false (p : Int → Bool) (L : List Int) (k : Nat) (hk : k < L.length) (h : p (nth L k) = false) : L.all p = false := by
  rw [List.all_eq_false]
  exact ⟨nth L k, List.mem_iff_getElem?.2 ⟨k, nth_eq hk⟩, by simp [h]⟩

theorem c_hits (oa) (cap : Nat) (L : List Int) (x : Int) (w : World) (hL : IntsAt w oa L) :
    Ans Try.prog 60 #[.slice oa L.length cap, .int .i64 x] w (.bool (hitsF L x)) := by
  unfold Ans
  have hn : L.length ≤ 1073741824 := hL.len
  go_enter Try.func60, Try.ntmps60
  go_wp2
  go_loop [9] (fun i => ∃ k : Nat, i = .int .i64 k ∧ k ≤ L.length ∧ (L.take k).all (fun e => !apart e x) = true) (fun i => L.length - (intOf i).toNat)
  case atStart => exact ⟨0, rfl, Nat.zero_le _, by simp⟩
  case round =>
    obtain ⟨k, rfl, hk, hall⟩ := hrel
    by_cases hlt : k < L.length
    · obtain ⟨b, off, rfl, hbs, hc⟩ := hL.at_ (by omega)
      have hc1 := hc k hlt
      have hts := all_take_succ (fun e => !apart e x) L k hlt
      have hf := all_false (fun e => !apart e x) L k hlt
      have HT : Hid ((L.take (k + 1)).all (fun e => !apart e x) = ((L.take k).all (fun e => !apart e x) && !apart (nth L k) x)) := hts
      have HF : Hid ((!apart (nth L k) x) = false → hitsF L x = false) := hf
      have HA : Hid ((L.take k).all (fun e => !apart e x) = true) := hall
      clear hts hf hall hc
      cases hap : (bits BinOp.and IntKind.i64 (nth L k) x == 0)
      · go_wp2
        go_round
        case rel => exact ⟨k + 1, by go_num, by omega, by rw [HT.out, HA.out]; unfold apart; rw [hap]; rfl⟩
        case measure => simp [intOf]; omega
      · go_wp2
        go_ret
        exact ⟨ret_bool (HF.out (by unfold apart; rw [hap]; rfl)).symm, Below.refl _ _⟩
    · have hkk : k = L.length := by omega
      have HA : Hid ((L.take k).all (fun e => !apart e x) = true) := hall
      clear hall
      go_wp2
      go_ret
      exact ⟨ret_bool (by have := HA.out; rw [hkk, List.take_length] at this; exact this.symm), Below.refl _ _⟩
theorem c_HitsAll (oa) (cap : Nat) (L : List Int) (x : Int) (w : World) (hL : IntsAt w oa L) :
    Ans Try.prog 17 #[.slice oa L.length cap, .int .i64 x] w (.bool (setsF L && (stB x && hitsF L x))) := by
  unfold Ans
  have hn : L.length ≤ 1073741824 := hL.len
  go_enter Try.func17, Try.ntmps17
  go_wp2
  go_loopw [9] (fun i wr => ∃ k : Nat, i = .int .i64 k ∧ k ≤ L.length ∧ (L.take k).all stB = true ∧ Below w.heap.size w wr) (fun i _ => L.length - (intOf i).toNat)
  case atStart => exact ⟨0, rfl, Nat.zero_le _, by simp, Below.refl _ _⟩
  case round =>
    obtain ⟨k, rfl, hk, hall, hb⟩ := hrel
    have HA : Hid ((L.take k).all stB = true) := hall
    clear hall
    by_cases hlt : k < L.length
    · obtain ⟨b, off, rfl, hbs, hc⟩ := hL.at_ (by omega)
      have hc1 := hc k hlt
      have HT : Hid ((L.take (k + 1)).all stB = ((L.take k).all stB && stB (nth L k))) := all_take_succ _ L k hlt
      have HF : Hid (stB (nth L k) = false → setsF L = false) := all_false _ L k hlt
      have hcl := (bcell hb).1
      clear hc
      cases hst : stB (nth L k)
      · go_wp2_with (first | (go_at_call 59; refine Calls.mono (c_isSet _ _) ?_; rintro e w1 ⟨rfl, hbn⟩; replace hb := bel_to hb hbn; clear hbn; try clear hcl; have hcl := (bcell hb).1))
        go_ret
        exact ⟨ret_bool (by rw [HF.out hst]; rfl), hb⟩
      · go_wp2_with (first | (go_at_call 59; refine Calls.mono (c_isSet _ _) ?_; rintro e w1 ⟨rfl, hbn⟩; replace hb := bel_to hb hbn; clear hbn; try clear hcl; have hcl := (bcell hb).1))
        go_roundw
        case rel => exact ⟨k + 1, by go_num, by omega, by rw [HT.out, HA.out, hst]; rfl, hb⟩
        case measure => simp [intOf]; omega
    · have hkk : k = L.length := by omega
      have HS : Hid (setsF L = true) := by have := HA.out; rw [hkk, List.take_length] at this; exact this
      clear hkk
      cases hst : stB x
      · go_wp2_with (first | (go_at_call 59; refine Calls.mono (c_isSet _ _) ?_; rintro e w1 ⟨rfl, hbn⟩; replace hb := bel_to hb hbn; clear hbn; try clear hcl; have hcl := (bcell hb).1))
        go_ret
        exact ⟨ret_bool (by simp [HS.out, hst]), hb⟩
      · go_wp2_with (first | (go_at_call 59; refine Calls.mono (c_isSet _ _) ?_; rintro e w1 ⟨rfl, hbn⟩; replace hb := bel_to hb hbn; clear hbn; try clear hcl; have hcl := (bcell hb).1) | (go_at_call 60; refine Calls.mono (c_hits _ _ _ _ _ (hL.keep hb)) ?_; rintro e w1 ⟨rfl, hbn⟩; replace hb := bel_to hb hbn; clear hbn; try clear hcl; have hcl := (bcell hb).1))
        go_ret
        exact ⟨ret_bool (by simp [HS.out, hst]), hb⟩

theorem c_specHitsAll (oa) (cap : Nat) (L : List Int) (x : Int) (w : World) (hL : IntsAt w oa L) :
    Ans Try.prog 15 #[.slice oa L.length cap, .int .i64 x] w (.bool (L.all (fun e => stB e && !apart e x) && stB x)) := by
  unfold Ans
  have hn : L.length ≤ 1073741824 := hL.len
  go_enter Try.func15, Try.ntmps15
  go_wp2
  go_loopw [5] (fun i wr => ∃ k : Nat, i = .int .i64 k ∧ k ≤ L.length ∧ (L.take k).all (fun e => stB e && !apart e x) = true ∧ Below w.heap.size w wr) (fun i _ => L.length - (intOf i).toNat)
  case atStart => exact ⟨0, rfl, Nat.zero_le _, by simp, Below.refl _ _⟩
  case round =>
    obtain ⟨k, rfl, hk, hall, hb⟩ := hrel
    have HA : Hid ((L.take k).all (fun e => stB e && !apart e x) = true) := hall
    clear hall
    by_cases hlt : k < L.length
    · obtain ⟨b, off, rfl, hbs, hc⟩ := hL.at_ (by omega)
      have hc1 := hc k hlt
      have HT : Hid ((L.take (k + 1)).all (fun e => stB e && !apart e x) = ((L.take k).all (fun e => stB e && !apart e x) && (stB (nth L k) && !apart (nth L k) x))) := all_take_succ (fun e => stB e && !apart e x) L k hlt
      have HF : Hid ((stB (nth L k) && !apart (nth L k) x) = false → L.all (fun e => stB e && !apart e x) = false) := all_false (fun e => stB e && !apart e x) L k hlt
      have hcl := (bcell hb).1
      clear hc
      cases hst : stB (nth L k)
      · go_wp2_with (first | (go_at_call 58; refine Calls.mono (c_l2Valid _ _) ?_; rintro e w1 ⟨rfl, hbn⟩; replace hb := bel_to hb hbn; clear hbn; try clear hcl; have hcl := (bcell hb).1))
        go_ret
        exact ⟨ret_bool (by rw [HF.out (by rw [hst]; rfl)]; rfl), hb⟩
      · cases hap : (bits BinOp.and IntKind.i64 (nth L k) x == 0)
        · go_wp2_with (first | (go_at_call 58; refine Calls.mono (c_l2Valid _ _) ?_; rintro e w1 ⟨rfl, hbn⟩; replace hb := bel_to hb hbn; clear hbn; try clear hcl; have hcl := (bcell hb).1))
          go_roundw
          case rel => exact ⟨k + 1, by go_num, by omega, by rw [HT.out, HA.out, hst]; unfold apart; rw [hap]; rfl, hb⟩
          case measure => simp [intOf]; omega
        · go_wp2_with (first | (go_at_call 58; refine Calls.mono (c_l2Valid _ _) ?_; rintro e w1 ⟨rfl, hbn⟩; replace hb := bel_to hb hbn; clear hbn; try clear hcl; have hcl := (bcell hb).1))
          go_ret
          exact ⟨ret_bool (by rw [HF.out (by unfold apart; rw [hap]; simp)]; rfl), hb⟩
    · have hkk : k = L.length := by omega
      have HS : Hid (L.all (fun e => stB e && !apart e x) = true) := by have := HA.out; rw [hkk, List.take_length] at this; exact this
      clear hkk
      go_wp2_with (first | (go_at_call 58; refine Calls.mono (c_l2Valid _ _) ?_; rintro e w1 ⟨rfl, hbn⟩; replace hb := bel_to hb hbn; clear hbn; try clear hcl; have hcl := (bcell hb).1))
      go_ret
      exact ⟨ret_bool (by simp [HS.out]), hb⟩

theorem hits_same (L : List Int) (x : Int) : (L.all (fun e => stB e && !apart e x) && stB x) = (setsF L && (stB x && hitsF L x)) := by
  have h : ∀ L : List Int, L.all (fun e => stB e && !apart e x) = (setsF L && hitsF L x) := by
    intro L
    induction L with
    | nil => rfl
    | cons a L ih =>
      simp only [setsF, hitsF, List.all_cons] at ih ⊢
      rw [ih]
      cases stB a <;> cases apart a x <;> cases L.all stB <;> rfl
  rw [h]
  cases setsF L <;> cases hitsF L x <;> cases stB x <;> rfl
def hitsAllF (L : List Int) (x : Int) : Bool := setsF L && (stB x && hitsF L x)
theorem a_HitsAll (oa) (cap : Nat) (L : List Int) (x : Int) (w : World) (hL : IntsAt w oa L) : Ans Try.prog 17 #[.slice oa L.length cap, .int .i64 x] w (.bool (hitsAllF L x)) :=
  c_HitsAll oa cap L x w hL
theorem a_specHitsAll (oa) (cap : Nat) (L : List Int) (x : Int) (w : World) (hL : IntsAt w oa L) : Ans Try.prog 15 #[.slice oa L.length cap, .int .i64 x] w (.bool (hitsAllF L x)) := by
  have h := c_specHitsAll oa cap L x w hL
  rw [hits_same] at h
  exact h
end Go.Proofs.Ytmdkbookcgkpaaa
