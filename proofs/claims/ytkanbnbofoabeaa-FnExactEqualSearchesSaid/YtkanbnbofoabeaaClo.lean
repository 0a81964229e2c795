/- The closure of a set of columns under dependencies, as the reference goes: six rounds over the list. No program in sight. -/
import Derived.Test.YtkanbnbofoabeaaSet
namespace Go.Proofs.Ytkanbnbofoabeaa
open Go.RowKit
set_option linter.unusedVariables false
set_option maxRecDepth 100000

def Val (D : List (Int × Int)) : Prop := ∀ d ∈ D, St d.1 ∧ Co d.2
def stepD (x : Int) (d : Int × Int) : Int := if insA d.1 x = true then uni x (one d.2) else x
def roundD (D : List (Int × Int)) (x : Int) : Int := D.foldl stepD x
def roundsD (D : List (Int × Int)) : Nat → Int → Int
  | 0, x => x
  | n + 1, x => roundsD D n (roundD D x)
def cloF (D : List (Int × Int)) (x : Int) : Int := roundsD D 6 x
/-- no dependency leads out of x -/
def Closed (D : List (Int × Int)) (x : Int) : Prop := ∀ d ∈ D, ins d.1 x = true → hasc x d.2 = true

theorem Val.tail {d : Int × Int} {D : List (Int × Int)} (h : Val (d :: D)) : Val D := fun e he => h e (List.mem_cons_of_mem _ he)
theorem Val.head {d : Int × Int} {D : List (Int × Int)} (h : Val (d :: D)) : St d.1 ∧ Co d.2 := h d (List.mem_cons_self ..)

theorem ins_uni_left {x y : Int} (hx : St x) (hy : St y) : ins x (uni x y) = true :=
  (ins_iff hx (uni_st hx hy)).2 fun c hc h => by rw [hasc_uni hx hy hc, h]; rfl
theorem uni_one_same {x c : Int} (hx : St x) (hc : Co c) (h : hasc x c = true) : uni x (one c) = x :=
  set_ext (uni_st hx (one_st hc)) hx fun d hd => by
    rw [hasc_uni hx (one_st hc) hd, hasc_one hc hd]
    by_cases e : c = d
    · subst e; simp [h]
    · simp [e]
theorem stepD_st {x : Int} {d : Int × Int} (hx : St x) (hd : St d.1 ∧ Co d.2) : St (stepD x d) := by
  unfold stepD; split
  · exact uni_st hx (one_st hd.2)
  · exact hx
theorem stepD_up {x : Int} {d : Int × Int} (hx : St x) (hd : St d.1 ∧ Co d.2) : ins x (stepD x d) = true := by
  unfold stepD; split
  · exact ins_uni_left hx (one_st hd.2)
  · exact ins_refl hx
theorem uni_ins {x y z : Int} (hx : St x) (hy : St y) (hz : St z) (h : ins x z = true) (h' : ins y z = true) : ins (uni x y) z = true :=
  (ins_iff (uni_st hx hy) hz).2 fun c hc e => by
    rw [hasc_uni hx hy hc, Bool.or_eq_true] at e
    rcases e with e | e
    · exact (ins_iff hx hz).1 h c hc e
    · exact (ins_iff hy hz).1 h' c hc e
theorem one_ins {c z : Int} (hc : Co c) (hz : St z) (h : hasc z c = true) : ins (one c) z = true :=
  (ins_iff (one_st hc) hz).2 fun d hd e => by
    rw [hasc_one hc hd] at e
    have : c = d := by simpa using e
    subst this; exact h
theorem stepD_min {x z : Int} {d : Int × Int} (hx : St x) (hz : St z) (hd : St d.1 ∧ Co d.2) (hxz : ins x z = true) (hc : ins d.1 z = true → hasc z d.2 = true) : ins (stepD x d) z = true := by
  unfold stepD; split
  · next h =>
    rw [insA_eq hd.1 hx] at h
    exact uni_ins hx (one_st hd.2) hz hxz (one_ins hd.2 hz (hc (ins_trans hd.1 hx hz h hxz)))
  · exact hxz
theorem roundD_st : ∀ {D : List (Int × Int)} {x : Int}, Val D → St x → St (roundD D x)
  | [], _, _, hx => hx
  | d :: D, x, hv, hx => roundD_st (D := D) hv.tail (stepD_st hx hv.head)
theorem roundD_up : ∀ {D : List (Int × Int)} {x : Int}, Val D → St x → ins x (roundD D x) = true
  | [], _, _, hx => ins_refl hx
  | d :: D, x, hv, hx => ins_trans hx (stepD_st hx hv.head) (roundD_st (D := D) hv.tail (stepD_st hx hv.head)) (stepD_up hx hv.head) (roundD_up (D := D) hv.tail (stepD_st hx hv.head))
theorem roundD_min : ∀ {D : List (Int × Int)} {x z : Int}, Val D → St x → St z → ins x z = true → Closed D z → ins (roundD D x) z = true
  | [], _, _, _, _, _, h, _ => h
  | d :: D, x, z, hv, hx, hz, h, hc =>
    roundD_min (D := D) hv.tail (stepD_st hx hv.head) hz (stepD_min hx hz hv.head h (hc d (List.mem_cons_self ..))) (fun e he => hc e (List.mem_cons_of_mem _ he))
/-- A round that adds nothing has met a closed set. -/
theorem roundD_same : ∀ {D : List (Int × Int)} {x : Int}, Val D → St x → roundD D x = x → Closed D x
  | [], _, _, _, _ => fun d hd => by cases hd
  | d :: D, x, hv, hx, h => by
    have h0 : stepD x d = x := ins_antisymm (stepD_st hx hv.head) hx (by
      have := roundD_up (D := D) hv.tail (stepD_st hx hv.head)
      have e : roundD D (stepD x d) = x := h
      rw [e] at this; exact this) (stepD_up hx hv.head)
    have h1 : roundD D x = x := by
      have e : roundD D (stepD x d) = x := h
      rw [h0] at e; exact e
    have ih := roundD_same (D := D) hv.tail hx h1
    intro e he
    rcases List.mem_cons.1 he with rfl | he
    · intro hi
      unfold stepD at h0
      rw [insA_eq hv.head.1 hx, if_pos hi] at h0
      have := hasc_uni hx (one_st hv.head.2) hv.head.2
      rw [h0, hasc_one hv.head.2 hv.head.2] at this
      simpa using this
    · exact ih e he
theorem closed_same {D : List (Int × Int)} {x : Int} (hv : Val D) (hx : St x) (hc : Closed D x) : roundD D x = x :=
  ins_antisymm (roundD_st hv hx) hx (roundD_min hv hx hx (ins_refl hx) hc) (roundD_up hv hx)

/-- how many columns -/
def card (x : Int) : Nat := ((List.range 5).filter fun (c : Nat) => hasc x c).length
theorem card_le (x : Int) : card x ≤ 5 := by
  unfold card
  have := List.length_filter_le (fun (c : Nat) => hasc x c) (List.range 5)
  simpa using this
theorem card_lt {x y : Int} (hx : St x) (hy : St y) (h : ins x y = true) (hne : x ≠ y) : card x < card y := by
  obtain ⟨n, hn, rfl⟩ := st_nat hx; obtain ⟨m, hm, rfl⟩ := st_nat hy
  have h' : ∀ n < 32, ∀ m < 32, ins (n : Nat) (m : Nat) = true → n ≠ m → card (n : Nat) < card (m : Nat) := by decide +kernel
  exact h' n hn m hm h (fun e => hne (by rw [e]))

theorem roundsD_st {D : List (Int × Int)} (hv : Val D) : ∀ (n : Nat) {x : Int}, St x → St (roundsD D n x)
  | 0, _, hx => hx
  | n + 1, _, hx => roundsD_st hv n (roundD_st hv hx)
theorem roundsD_up {D : List (Int × Int)} (hv : Val D) : ∀ (n : Nat) {x : Int}, St x → ins x (roundsD D n x) = true
  | 0, _, hx => ins_refl hx
  | n + 1, _, hx => ins_trans hx (roundD_st hv hx) (roundsD_st hv n (roundD_st hv hx)) (roundD_up hv hx) (roundsD_up hv n (roundD_st hv hx))
theorem roundsD_min {D : List (Int × Int)} (hv : Val D) : ∀ (n : Nat) {x z : Int}, St x → St z → ins x z = true → Closed D z → ins (roundsD D n x) z = true
  | 0, _, _, _, _, h, _ => h
  | n + 1, _, _, hx, hz, h, hc => roundsD_min hv n (roundD_st hv hx) hz (roundD_min hv hx hz h hc) hc
theorem roundsD_closed {D : List (Int × Int)} (hv : Val D) : ∀ (n : Nat) {x : Int}, St x → 6 ≤ n + card x → Closed D (roundsD D n x)
  | 0, x, hx, h => by have := card_le x; omega
  | n + 1, x, hx, h => by
    by_cases e : roundD D x = x
    · have hc := roundD_same hv hx e
      have hs : ∀ m, roundsD D m x = x := by
        intro m
        induction m with
        | zero => rfl
        | succ m ih => show roundsD D m (roundD D x) = x; rw [e]; exact ih
      rw [hs]; exact hc
    · exact roundsD_closed hv n (roundD_st hv hx) (by
        have := card_lt hx (roundD_st hv hx) (roundD_up hv hx) (fun h => e h.symm)
        omega)

theorem cloF_st {D : List (Int × Int)} {x : Int} (hv : Val D) (hx : St x) : St (cloF D x) := roundsD_st hv 6 hx
theorem cloF_up {D : List (Int × Int)} {x : Int} (hv : Val D) (hx : St x) : ins x (cloF D x) = true := roundsD_up hv 6 hx
theorem cloF_min {D : List (Int × Int)} {x z : Int} (hv : Val D) (hx : St x) (hz : St z) (h : ins x z = true) (hc : Closed D z) : ins (cloF D x) z = true := roundsD_min hv 6 hx hz h hc
theorem cloF_closed {D : List (Int × Int)} {x : Int} (hv : Val D) (hx : St x) : Closed D (cloF D x) := roundsD_closed hv 6 hx (by omega)
/-- The closure is known by what it does. -/
theorem cloF_unique {D : List (Int × Int)} {x y : Int} (hv : Val D) (hx : St x) (hy : St y) (hu : ins x y = true) (hc : Closed D y)
    (hm : ∀ z, St z → ins x z = true → Closed D z → ins y z = true) : y = cloF D x :=
  ins_antisymm hy (cloF_st hv hx) (hm _ (cloF_st hv hx) (cloF_up hv hx) (cloF_closed hv hx)) (cloF_min hv hx hy hu hc)
theorem cloF_same {D : List (Int × Int)} {x : Int} (hv : Val D) (hx : St x) (hc : Closed D x) : cloF D x = x :=
  (cloF_unique hv hx hx (ins_refl hx) hc fun z _ h _ => h).symm
end Go.Proofs.Ytkanbnbofoabeaa
