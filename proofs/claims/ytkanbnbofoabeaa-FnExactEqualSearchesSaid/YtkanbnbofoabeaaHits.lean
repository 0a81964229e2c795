/- HitsAll, of the program and of the reference, and what the exact laws do with lists of ints. -/
import Derived.Test.YtkanbnbofoabeaaBasic
import Derived.Test.YtkanbnbofoabeaaOwn
namespace Go.Proofs.Ytkanbnbofoabeaa
open Go.RowKit
set_option linter.unusedVariables false
set_option maxRecDepth 100000

/-- x & y == 0 -/
def apart (x y : Int) : Bool := bits BinOp.and .i64 x y == 0
def hitsF (L : List Int) (x : Int) : Bool := L.all fun e => !apart e x
def setsF (L : List Int) : Bool := L.all stB

theorem all_take_succ (p : Int → Bool) (L : List Int) (k : Nat) (hk : k < L.length) : (L.take (k + 1)).all p = ((L.take k).all p && p (nth L k)) := by
  rw [List.take_add_one, nth_eq hk]; simp
theorem all_false (p : Int → Bool) (L : List Int) (k : Nat) (hk : k < L.length) (h : p (nth L k) = false) : L.all p = false := by
  rw [List.all_eq_false]
  exact ⟨nth L k, List.mem_iff_getElem?.2 ⟨k, nth_eq hk⟩, by simp [h]⟩

theorem c_hits (oa) (cap : Nat) (L : List Int) (x : Int) (w : World) (hL : IntsAt w oa L) :
    Ans Try.prog 145 #[.slice oa L.length cap, .int .i64 x] w (.bool (hitsF L x)) := by
  unfold Ans
  have hn : L.length ≤ 1073741824 := hL.len
  go_enter Try.func145, Try.ntmps145
  go_wp2
  go_loop [9] (fun i => ∃ k : Nat, i = .int .i64 k ∧ k ≤ L.length ∧ (L.take k).all (fun e => !apart e x) = true) (fun i => L.length - (intOf i).toNat)
  case atStart => exact ⟨0, rfl, Nat.zero_le _, by simp⟩
  case round =>
    obtain ⟨k, rfl, hk, hall⟩ := hrel
    by_cases hlt : k < L.length
    · obtain ⟨b, off, rfl, hbs, hc⟩ := hL.at_ (by omega)
      have hc1 := hc k hlt
      have hts := all_take_succ (fun e => !apart e x) L k hlt
      have hf := all_false (fun e => !apart e x) L k hlt
      have HT : Hid ((L.take (k + 1)).all (fun e => !apart e x) = ((L.take k).all (fun e => !apart e x) && !apart (nth L k) x)) := hts
      have HF : Hid ((!apart (nth L k) x) = false → hitsF L x = false) := hf
      have HA : Hid ((L.take k).all (fun e => !apart e x) = true) := hall
      clear hts hf hall hc
      cases hap : (bits BinOp.and IntKind.i64 (nth L k) x == 0)
      · go_wp2
        go_round
        case rel => exact ⟨k + 1, by go_num, by omega, by rw [HT.out, HA.out]; unfold apart; rw [hap]; rfl⟩
        case measure => simp [intOf]; omega
      · go_wp2
        go_ret
        exact ⟨ret_bool (HF.out (by unfold apart; rw [hap]; rfl)).symm, Below.refl _ _⟩
    · have hkk : k = L.length := by omega
      have HA : Hid ((L.take k).all (fun e => !apart e x) = true) := hall
      clear hall
      go_wp2
      go_ret
      exact ⟨ret_bool (by have := HA.out; rw [hkk, List.take_length] at this; exact this.symm), Below.refl _ _⟩
theorem hits_same (L : List Int) (x : Int) : (L.all (fun e => stB e && !apart e x) && stB x) = (setsF L && (stB x && hitsF L x)) := by
  have h : ∀ L : List Int, L.all (fun e => stB e && !apart e x) = (setsF L && hitsF L x) := by
    intro L
    induction L with
    | nil => rfl
    | cons a L ih =>
      simp only [setsF, hitsF, List.all_cons] at ih ⊢
      rw [ih]
      cases stB a <;> cases apart a x <;> cases L.all stB <;> rfl
  rw [h]
  cases setsF L <;> cases hitsF L x <;> cases stB x <;> rfl
def hitsAllF (L : List Int) (x : Int) : Bool := setsF L && (stB x && hitsF L x)
end Go.Proofs.Ytkanbnbofoabeaa
