/- Contracts and lemmas for FnCovers, part 4 of 6. -/
import Derived.Test.YtcenndlbhgfdfaaGreatQFnCovers1
import Derived.Test.YtcenndlbhgfdfaaGreatQFnCovers2
import Derived.Test.YtcenndlbhgfdfaaGreatQFnCovers3
import Derived.BigRegion
import Derived.RegionTactic
import Derived.Outline
import Derived.ProofKit
import Derived.OpenShut
import Derived.Lib.SmallJoins
import Derived.Deep.SlicePairs
import Derived.Deep.Matrix
import Derived.Deep.RegionHeld3
import Derived.Deep.RegionLaw
import Derived.IntWalk
namespace Go.Proofs.YtcenndlbhgfdfaaGreat
open Go.RowKit
set_option linter.unusedVariables false
set_option maxRecDepth 100000

def redStep (D : List (Int × Int)) (r x c : Int) : Int := if dif x (one c) != x && hasc (cloF D (dif x (one c))) r then dif x (one c) else x
def fiveI : List Int := [0, 1, 2, 3, 4]
def redF (D : List (Int × Int)) (l r : Int) : Int := fiveI.foldl (redStep D r) l
def reduceF (n : Int) (D : List (Int × Int)) (l r : Int) : Int := if impliesDepF n D l r then redF D l r else l

theorem redStep_st {D : List (Int × Int)} {r x c : Int} (hx : St x) (hc : Co c) : St (redStep D r x c) := by
  unfold redStep; split
  · exact dif_st hx (one_st hc)
  · exact hx
theorem dif_one_same {x c : Int} (hx : St x) (hc : Co c) : (dif x (one c) != x) = hasc x c := by
  obtain ⟨n, hn, rfl⟩ := st_nat hx; obtain ⟨k, hk, rfl⟩ := co_nat hc
  have h : ∀ n < 32, ∀ k < 5, (dif (n : Nat) (one (k : Nat)) != (n : Nat)) = hasc (n : Nat) (k : Nat) := by decide +kernel
  exact h n hn k hk
theorem redStep_no {D : List (Int × Int)} {r x c : Int} (hx : St x) (hc : Co c) (h : hasc x c = false) : redStep D r x c = x := by
  unfold redStep; rw [dif_one_same hx hc, h]; simp
theorem redStep_other {D : List (Int × Int)} {r x c e : Int} (hx : St x) (hc : Co c) (he : Co e) (hne : c ≠ e) : hasc (redStep D r x c) e = hasc x e := by
  unfold redStep; split
  · rw [hasc_dif hx (one_st hc) he, hasc_one hc he]
    simp [hne]
  · rfl
theorem impliesDepF_val {n : Int} {D : List (Int × Int)} {l r : Int} (h : impliesDepF n D l r = true) : Val D ∧ St l ∧ Co r := by
  simp only [impliesDepF, Bool.and_eq_true] at h
  have := (isDepF_val h.2.1).1
  exact ⟨(areDepsF_val h.1).1, this.1, this.2⟩

theorem five_drop (k : Nat) (hk : k < 5) (f : Int → Int → Int) (x : Int) : (fiveI.drop k).foldl f x = (fiveI.drop (k + 1)).foldl f (f x k) := by
  match k, hk with
  | 0, _ => rfl
  | 1, _ => rfl
  | 2, _ => rfl
  | 3, _ => rfl
  | 4, _ => rfl

end Go.Proofs.YtcenndlbhgfdfaaGreat
namespace Go.Proofs.YtcenndlbhgfdfaaGreat
open Go.RowKit
set_option linter.unusedVariables false
set_option maxRecDepth 100000

theorem members_mem {x c : Int} (hx : St x) : c ∈ membersF x ↔ Co c ∧ hasc x c = true := by
  have e : stB x = true := by simpa [stB] using hx
  unfold membersF membersUpTo
  rw [e, if_pos rfl, List.mem_filter, List.mem_map]
  constructor
  · rintro ⟨⟨k, hk, rfl⟩, h⟩
    exact ⟨⟨by omega, by have := List.mem_range.1 hk; omega⟩, h⟩
  · rintro ⟨hc, h⟩
    obtain ⟨k, hk, rfl⟩ := co_nat hc
    exact ⟨⟨k, List.mem_range.2 hk, rfl⟩, h⟩
theorem members_nodup (x : Int) : (membersF x).Nodup := by
  unfold membersF membersUpTo
  split
  · apply List.Pairwise.filter
    rw [show ((List.range 5).map fun (c : Nat) => (c : Int)) = fiveI from rfl]
    decide
  · exact List.Pairwise.nil
theorem fold_filter {D : List (Int × Int)} {r l : Int} : ∀ (cs : List Int) (x : Int), St x → (∀ c ∈ cs, Co c) → cs.Nodup → (∀ c ∈ cs, hasc x c = hasc l c) →
    cs.foldl (redStep D r) x = (cs.filter (hasc l)).foldl (redStep D r) x
  | [], _, _, _, _, _ => rfl
  | c :: cs, x, hx, hco, hnd, h => by
    have hc := hco c (List.mem_cons_self ..)
    have hco' : ∀ d ∈ cs, Co d := fun d hd => hco d (List.mem_cons_of_mem _ hd)
    obtain ⟨hn1, hn2⟩ := List.nodup_cons.1 hnd
    have hst := redStep_st (D := D) (r := r) hx hc
    have hs : ∀ d ∈ cs, hasc (redStep D r x c) d = hasc l d := fun d hd => by
      rw [redStep_other hx hc (hco' d hd) (fun e => hn1 (e ▸ hd))]
      exact h d (List.mem_cons_of_mem _ hd)
    have ih := fold_filter (D := D) (r := r) (l := l) cs _ hst hco' hn2 hs
    rw [List.foldl_cons, List.filter_cons]
    cases hl : hasc l c
    · have e : redStep D r x c = x := redStep_no hx hc (by rw [h c (List.mem_cons_self ..), hl])
      rw [e] at ih ⊢
      exact ih
    · simp only [if_true, List.foldl_cons]
      exact ih
theorem redF_members {D : List (Int × Int)} {l r : Int} (hl : St l) : redF D l r = (membersF l).foldl (redStep D r) l := by
  have e : stB l = true := by simpa [stB] using hl
  have hm : membersF l = fiveI.filter (hasc l) := by unfold membersF membersUpTo; rw [e, if_pos rfl]; rfl
  rw [hm]
  exact fold_filter fiveI l hl (by decide) (by decide) (fun _ _ => rfl)
theorem nth_drop {L : List Int} {k : Nat} (hk : k < L.length) : L.drop k = nth L k :: L.drop (k + 1) := by
  rw [List.drop_eq_getElem_cons hk]
  congr 1
  have := nth_eq hk
  rw [List.getElem?_eq_getElem hk] at this
  exact Option.some.inj this

end Go.Proofs.YtcenndlbhgfdfaaGreat
namespace Go.Proofs.YtcenndlbhgfdfaaGreat
open Go.RowKit
set_option linter.unusedVariables false
set_option maxRecDepth 100000

def coverBad (n : Int) (D : List (Int × Int)) (i : Nat) : Bool := impliesDepF n (eraD D i) (nl D i) (nr D i) || !(reduceF n D (nl D i) (nr D i) == nl D i)
def isCoverF (n : Int) (D : List (Int × Int)) : Bool := areDepsF n D && (List.range D.length).all fun i => !coverBad n D i
theorem OwnD.cap {w : World} {base : Nat} {v : Value} {L : List (Int × Int)} (h : OwnD w base v L) : ∃ oa cap, v = .slice oa L.length cap ∧ L.length ≤ cap ∧ (oa = none → cap = 0) := by
  rcases h.2 with ⟨hv, h0⟩ | ⟨g, cap, cur, hv, hb, hg, hl, _⟩
  · exact ⟨none, 0, by rw [hv, h0], by omega, fun _ => rfl⟩
  · exact ⟨_, cap, hv, hl, fun h => by cases h⟩
theorem range_all_succ (p : Nat → Bool) (k : Nat) : (List.range (k + 1)).all p = ((List.range k).all p && p k) := by
  rw [List.range_succ, List.all_append]; simp
theorem range_all_false (p : Nat → Bool) (k n : Nat) (hk : k < n) (h : p k = false) : (List.range n).all p = false := by
  rw [List.all_eq_false]; exact ⟨k, List.mem_range.2 hk, by simp [h]⟩
theorem eraD_len {D : List (Int × Int)} {i : Nat} (h : i < D.length) : (eraD D i).length = D.length - 1 := by
  unfold eraD; rw [List.length_append, List.length_take, List.length_drop]; omega

theorem mem_eraD {D : List (Int × Int)} {i : Nat} {d : Int × Int} (h : d ∈ eraD D i) : d ∈ D := by
  unfold eraD at h
  rcases List.mem_append.1 h with h | h
  · exact List.mem_of_mem_take h
  · exact List.mem_of_mem_drop h
theorem nth_mem {D : List (Int × Int)} {k : Nat} (h : k < D.length) : (nl D k, nr D k) ∈ D := List.mem_iff_getElem?.2 ⟨k, dnth_eq h⟩
theorem areDepsF_mem {n : Int} {D : List (Int × Int)} (h : areDepsF n D = true) {d : Int × Int} (hd : d ∈ D) : isDepF n d.1 d.2 = true := by
  simp only [areDepsF, Bool.and_eq_true, decide_eq_true_eq, List.all_eq_true] at h
  exact h.1 d hd
theorem areDepsF_sub {n : Int} {D E : List (Int × Int)} (h : areDepsF n D = true) (hs : ∀ d ∈ E, d ∈ D) (hl : E.length ≤ D.length) : areDepsF n E = true := by
  simp only [areDepsF, Bool.and_eq_true, decide_eq_true_eq, List.all_eq_true] at h ⊢
  exact ⟨fun d hd => h.1 d (hs d hd), h.2.1, by omega⟩
theorem areDepsF_era {n : Int} {D : List (Int × Int)} (h : areDepsF n D = true) {i : Nat} (hi : i < D.length) : areDepsF n (eraD D i) = true :=
  areDepsF_sub h (fun _ hd => mem_eraD hd) (by rw [eraD_len hi]; omega)

end Go.Proofs.YtcenndlbhgfdfaaGreat
namespace Go.Proofs.YtcenndlbhgfdfaaGreat
open Go.RowKit
set_option linter.unusedVariables false
set_option maxRecDepth 100000

def addF (n : Int) (D A : List (Int × Int)) (d : Int × Int) : List (Int × Int) := if A.contains (reduceF n D d.1 d.2, d.2) then A else A ++ [(reduceF n D d.1 d.2, d.2)]
def dstF (n : Int) (D : List (Int × Int)) (k : Nat) : List (Int × Int) := (D.take k).foldl (addF n D) []
def pruneF (n : Int) : Nat → List (Int × Int) → Nat → List (Int × Int)
  | 0, A, _ => A
  | f + 1, A, i => if i < A.length then (if impliesDepF n (eraD A i) (nl A i) (nr A i) then pruneF n f (eraD A i) i else pruneF n f A (i + 1)) else A
def coverOfF (n : Int) (D : List (Int × Int)) : List (Int × Int) := if areDepsF n D then pruneF n (dstF n D D.length).length (dstF n D D.length) 0 else []
theorem dstF_succ {n : Int} {D : List (Int × Int)} {k : Nat} (hk : k < D.length) : dstF n D (k + 1) = addF n D (dstF n D k) (nl D k, nr D k) := by
  unfold dstF; rw [List.take_add_one, dnth_eq hk, List.foldl_append]; rfl
theorem dstF_len (n : Int) (D : List (Int × Int)) : ∀ k, k ≤ D.length → (dstF n D k).length ≤ k
  | 0, _ => by simp [dstF]
  | k + 1, hk => by
    rw [dstF_succ (by omega)]
    have := dstF_len n D k (by omega)
    unfold addF; split
    · omega
    · simp; omega
theorem dif_leC {x c : Int} (hx : St x) (hc : Co c) : dif x (one c) ≤ x := by
  obtain ⟨n, hn, rfl⟩ := st_nat hx; obtain ⟨k, hk, rfl⟩ := co_nat hc
  have h : ∀ n < 32, ∀ k < 5, dif (n : Nat) (one (k : Nat)) ≤ (n : Nat) := by decide +kernel
  exact h n hn k hk
theorem foldl_le {D : List (Int × Int)} {r : Int} : ∀ (C : List Int) (x : Int), (∀ c ∈ C, Co c) → St x → C.foldl (redStep D r) x ≤ x ∧ St (C.foldl (redStep D r) x)
  | [], x, _, hx => ⟨Int.le_refl x, hx⟩
  | c :: C, x, hC, hx => by
    have hc := hC c (List.mem_cons_self ..)
    have h1 : redStep D r x c ≤ x := by
      unfold redStep; split
      · exact dif_leC hx hc
      · exact Int.le_refl x
    have h2 := foldl_le (D := D) (r := r) C (redStep D r x c) (fun d hd => hC d (List.mem_cons_of_mem _ hd)) (redStep_st hx hc)
    exact ⟨Int.le_trans h2.1 h1, h2.2⟩
theorem five_co : ∀ c ∈ fiveI, Co c := by decide
theorem reduceF_dep {n l r : Int} {D : List (Int × Int)} (h : isDepF n l r = true) : isDepF n (reduceF n D l r) r = true := by
  unfold reduceF
  split
  · have hst := (isDepF_val h).1.1
    have := foldl_le (D := D) (r := r) fiveI l five_co hst
    simp only [isDepF, isAttr, Bool.and_eq_true, decide_eq_true_eq] at h ⊢
    unfold redF
    exact ⟨⟨⟨h.1.1.1, ⟨h.1.1.2.1.1, this.2.1⟩, Int.lt_of_le_of_lt this.1 h.1.1.2.2⟩, h.1.2⟩, h.2⟩
  · exact h
theorem dstF_dep {n : Int} {D : List (Int × Int)} (ha : areDepsF n D = true) : ∀ k, k ≤ D.length → ∀ d ∈ dstF n D k, isDepF n d.1 d.2 = true
  | 0, _, d, hd => by simp [dstF] at hd
  | k + 1, hk, d, hd => by
    rw [dstF_succ (by omega)] at hd
    unfold addF at hd
    split at hd
    · exact dstF_dep ha k (by omega) d hd
    · rcases List.mem_append.1 hd with hd | hd
      · exact dstF_dep ha k (by omega) d hd
      · simp at hd; subst hd
        exact reduceF_dep (areDepsF_mem ha (nth_mem (k := k) (by omega)))
theorem pruneF_end {n : Int} {A : List (Int × Int)} {i : Nat} (h : A.length ≤ i) (f : Nat) : pruneF n f A i = A := by
  cases f with
  | zero => rfl
  | succ f => unfold pruneF; rw [if_neg (by omega)]
theorem pruneF_del {n : Int} {A : List (Int × Int)} {i : Nat} (h : i < A.length) (hi : impliesDepF n (eraD A i) (nl A i) (nr A i) = true) : pruneF n (A.length - i) A i = pruneF n ((eraD A i).length - i) (eraD A i) i := by
  have e : A.length - i = ((eraD A i).length - i) + 1 := by rw [eraD_len h]; omega
  rw [e]; conv => lhs; unfold pruneF
  rw [if_pos h, hi]; rfl
theorem pruneF_keep {n : Int} {A : List (Int × Int)} {i : Nat} (h : i < A.length) (hi : impliesDepF n (eraD A i) (nl A i) (nr A i) = false) : pruneF n (A.length - i) A i = pruneF n (A.length - (i + 1)) A (i + 1) := by
  have e : A.length - i = (A.length - (i + 1)) + 1 := by omega
  rw [e]; conv => lhs; unfold pruneF
  rw [if_pos h, hi]; rfl
theorem contains_succ {A : List (Int × Int)} {k : Nat} (h : k < A.length) (d : Int × Int) : (A.take (k + 1)).contains d = ((A.take k).contains d || (nl A k == d.1 && nr A k == d.2)) := by
  rw [List.take_add_one, dnth_eq h, Bool.eq_iff_iff]
  simp only [Option.toList, List.contains_iff_mem, List.mem_append, List.mem_singleton, Bool.or_eq_true, Bool.and_eq_true, beq_iff_eq, Prod.ext_iff]
  constructor
  · rintro (h | ⟨h1, h2⟩)
    · exact .inl h
    · exact .inr ⟨h1.symm, h2.symm⟩
  · rintro (h | ⟨h1, h2⟩)
    · exact .inl h
    · exact .inr ⟨h1.symm, h2.symm⟩
theorem contains_at {A : List (Int × Int)} {k : Nat} (h : k < A.length) {l r : Int} (h1 : nl A k = l) (h2 : nr A k = r) : A.contains (l, r) = true := by
  subst h1; subst h2
  simp only [List.contains_iff_mem]; exact nth_mem h
def slen : Value → Nat
  | .slice _ n _ => n
  | _ => 0

end Go.Proofs.YtcenndlbhgfdfaaGreat
namespace Go.Proofs.YtcenndlbhgfdfaaGreat
open Go.RowKit
set_option linter.unusedVariables false
set_option maxRecDepth 100000

theorem OwnD.snoc {w : World} {base : Nat} {v : Value} {A : List (Int × Int)} {l r : Int} (h : w.ownsRow base 38 2 v (A.length + 1) (dcells A ++ [.int .i64 l, .int .i64 r])) : OwnD w base v (A ++ [(l, r)]) := OwnD.joined (B := [(l, r)]) h

end Go.Proofs.YtcenndlbhgfdfaaGreat
namespace Go.Proofs.YtcenndlbhgfdfaaGreat
open Go.RowKit
set_option linter.unusedVariables false
set_option maxRecDepth 100000

theorem grown_more {w a b : World} {g : Nat} {row : Option Nat} (hG : w.grownBy a (some g)) (hg : a.grownBy b row) (hr : ∀ k, row = some k → w.heap.size ≤ k) : w.grownBy b (some g) :=
  ⟨hg.os.trans hG.os, hg.tape.trans hG.tape, hg.output.trans hG.output, Nat.le_trans hG.size hg.size, fun i hi hne => (hg.block i (Nat.lt_of_lt_of_le hi hG.size) (fun e => by have := hr i e.symm; omega)).trans (hG.block i hi hne)⟩
theorem owns_cur {w w' : World} {B size n g : Nat} {e : TypeId} {v : Value} {xs : List Value} (h : w.ownsRow B e size v n xs) (hg : w.grownBy w' (some g)) (hB : g < B) : w'.ownsRow B e size v n xs :=
  World.ownsRow.kept h hg (.inr fun e => by have := (World.ownsRow.lt h g e).1; omega)
theorem OwnD.cur {w w' : World} {B g : Nat} {v : Value} {D : List (Int × Int)} (h : OwnD w B v D) (hg : w.grownBy w' (some g)) (hB : g < B) : OwnD w' B v D := owns_cur h hg hB
/-- What the cursor has turned lies behind the base. -/
theorem below_cur {w a b : World} {g : Nat} (hb : Below w.heap.size w a) (hg : a.grownBy b (some g)) (hB : w.heap.size ≤ g) : Below w.heap.size w b := hb.grown hg hb.size (fun k e => by injection e with e; omega)
end Go.Proofs.YtcenndlbhgfdfaaGreat
namespace Go.Proofs.YtcenndlbhgfdfaaGreat
open Go.RowKit
set_option linter.unusedVariables false
set_option maxRecDepth 100000

def tabV (n : Int) (o : Option Addr) (l c : Nat) : Value := .agg #[.int .i64 n, .slice o l c]
end Go.Proofs.YtcenndlbhgfdfaaGreat
namespace Go.Proofs.YtcenndlbhgfdfaaGreat
open Go.RowKit
set_option linter.unusedVariables false
set_option maxRecDepth 100000

structure OwnRows (w : World) (B : Nat) (v : Value) (xs : List Value) (R : List (List Int)) : Prop where
  len : xs.length = R.length
  outer : OwnV w B v xs
  rows : ∀ j, j < R.length → ∃ o c, xs[j]? = some (.slice o (row R j).length c) ∧ OwnI w B (.slice o (row R j).length c) (row R j) ∧ Apart v (.slice o (row R j).length c)
  pair : ∀ i j, i < j → j < R.length → ∀ u u', xs[i]? = some u → xs[j]? = some u' → Apart u u'
theorem OwnRows.keep {w w' : World} {B : Nat} {v : Value} {xs : List Value} {R : List (List Int)} (h : OwnRows w B v xs R) (hb : Below w.heap.size w w') : OwnRows w' B v xs R :=
  ⟨h.len, h.outer.keep hb, fun j hj => by
    obtain ⟨o, c, h1, h2, h3⟩ := h.rows j hj
    exact ⟨o, c, h1, h2.keep hb, h3⟩, h.pair⟩
theorem OwnRows.based {w : World} {B B' : Nat} {v : Value} {xs : List Value} {R : List (List Int)} (h : OwnRows w B v xs R) (hb : B' ≤ B) : OwnRows w B' v xs R :=
  ⟨h.len, owns_base h.outer hb, fun j hj => by
    obtain ⟨o, c, h1, h2, h3⟩ := h.rows j hj
    exact ⟨o, c, h1, h2.based hb, h3⟩, h.pair⟩
theorem OwnRows.shape {w : World} {B : Nat} {v : Value} {xs : List Value} {R : List (List Int)} (h : OwnRows w B v xs R) : ∃ oa c, v = .slice oa R.length c := by
  obtain ⟨oa, c, e, _⟩ := owns_cells h.outer
  exact ⟨oa, c, by rw [e, h.len]⟩
theorem OwnRows.at_ {w : World} {B : Nat} {oa : Option Addr} {n c : Nat} {xs : List Value} {R : List (List Int)} (h : OwnRows w B (.slice oa n c) xs R) (h0 : 0 < R.length) :
    ∃ g, oa = some ⟨g, 0, none⟩ ∧ B ≤ g ∧ g < w.heap.size ∧ ∀ j, j < R.length → w.cell? ⟨g, j, none⟩ = xs[j]? := by
  obtain ⟨oa', c', e, hg⟩ := owns_cells h.outer
  simp only [Value.slice.injEq] at e
  obtain ⟨rfl, _, rfl⟩ := e
  obtain ⟨g, h1, h2, h3, _, h4, _⟩ := hg (by rw [h.len]; exact h0)
  exact ⟨g, h1, h2, h3, fun j hj => h4 j (by rw [h.len]; omega)⟩
theorem OwnRows.read {w : World} {B : Nat} {oa : Option Addr} {n c : Nat} {xs : List Value} {R : List (List Int)} (h : OwnRows w B (.slice oa n c) xs R) (hR : R.length ≤ Room) (hr : ∀ j, j < R.length → (row R j).length ≤ Room) : RowsAt w oa R :=
  ⟨hR, fun h0 => by
    obtain ⟨g, e, _, hlt, hc⟩ := h.at_ h0
    refine ⟨g, 0, e, hlt, fun j hj => ?_⟩
    obtain ⟨o, c', h1, h2, _⟩ := h.rows j hj
    exact ⟨o, c', by rw [Nat.zero_add, hc j hj]; exact h1, h2.ints rfl (hr j hj)⟩⟩

/-- Nothing has turned but in the blocks of these slices. -/
structure GrownMany (w w' : World) (vs : List Value) : Prop where
  os : w'.os = w.os
  tape : w'.tape = w.tape
  output : w'.output = w.output
  size : w.heap.size ≤ w'.heap.size
  block : ∀ k, k < w.heap.size → (∀ y ∈ vs, y.ownBlock ≠ some k) → w'.heap[k]? = w.heap[k]?
theorem GrownMany.refl (w : World) (vs : List Value) : GrownMany w w vs := ⟨rfl, rfl, rfl, Nat.le_refl _, fun _ _ _ => rfl⟩
theorem GrownMany.trans {a b c : World} {vs : List Value} (h : GrownMany a b vs) (k : GrownMany b c vs) : GrownMany a c vs :=
  ⟨k.os.trans h.os, k.tape.trans h.tape, k.output.trans h.output, Nat.le_trans h.size k.size, fun j hj hy => (k.block j (Nat.lt_of_lt_of_le hj h.size) hy).trans (h.block j hj hy)⟩
theorem GrownMany.one {a b : World} {vs : List Value} {u : Value} (h : a.grownBy b u.ownBlock) (hu : u ∈ vs) : GrownMany a b vs :=
  ⟨h.os, h.tape, h.output, h.size, fun j hj hy => h.block j hj fun e => hy u hu e.symm⟩
theorem GrownMany.of {a b : World} {vs : List Value} (h : Below a.heap.size a b) : GrownMany a b vs := ⟨h.os, h.tape, h.output, h.size, fun j hj _ => h.block j hj⟩
theorem owns_many {w w' : World} {base : Nat} {e : TypeId} {size : Nat} {v : Value} {n : Nat} {xs vs : List Value} (h : w.ownsRow base e size v n xs) (hg : GrownMany w w' vs) (ha : ∀ y ∈ vs, Apart v y) : w'.ownsRow base e size v n xs := by
  refine ⟨h.1, ?_⟩
  rcases h.2 with hn | ⟨g, cap, cur, rfl, hb, hgg, rest⟩
  · exact .inl hn
  · refine .inr ⟨g, cap, cur, rfl, hb, ?_, rest⟩
    rw [hg.block g (Array.getElem?_eq_some_iff.1 hgg).1 (fun y hy e => by
      rcases ha y hy with h' | h'
      · simp [Value.ownBlock] at h'
      · exact h' (by rw [e]; rfl))]
    exact hgg
theorem OwnI.many {w w' : World} {base : Nat} {v : Value} {L : List Int} {vs : List Value} (h : OwnI w base v L) (hg : GrownMany w w' vs) (ha : ∀ y ∈ vs, Apart v y) : OwnI w' base v L := owns_many h hg ha
theorem OwnD.many {w w' : World} {base : Nat} {v : Value} {L : List (Int × Int)} {vs : List Value} (h : OwnD w base v L) (hg : GrownMany w w' vs) (ha : ∀ y ∈ vs, Apart v y) : OwnD w' base v L := owns_many h hg ha
theorem below_many {B : Nat} {w a b : World} {vs : List Value} (h : Below B w a) (hB0 : B ≤ w.heap.size) (hg : GrownMany a b vs) (hB : ∀ y ∈ vs, ∀ g, y.ownBlock = some g → B ≤ g) : Below B w b :=
  h.trans ⟨hg.os, hg.tape, hg.output, hg.size, fun k hk => hg.block k (by have := h.size; omega) fun y hy e => by have := hB y hy k e; omega⟩
theorem OwnRows.low {w : World} {B : Nat} {v : Value} {xs : List Value} {R : List (List Int)} (h : OwnRows w B v xs R) : ∀ y ∈ xs, ∀ g, y.ownBlock = some g → B ≤ g := by
  intro y hy g hg
  obtain ⟨j, hj⟩ := List.mem_iff_getElem?.1 hy
  have hjl : j < R.length := by rw [← h.len]; exact (List.getElem?_eq_some_iff.1 hj).1
  obtain ⟨o, c, h1, h2, _⟩ := h.rows j hjl
  rw [h1] at hj
  injection hj with hj
  subst hj
  exact (World.ownsRow.lt h2 g hg).1
/-- What the call made before, and what it makes behind, lies apart from all of it. -/
theorem OwnRows.before {w w' : World} {base size n : Nat} {e : TypeId} {u v : Value} {ys xs : List Value} {R : List (List Int)} (h : w.ownsRow base e size u n ys) (h' : OwnRows w' w.heap.size v xs R) : ∀ y ∈ xs, Apart u y := by
  intro y hy
  obtain ⟨j, hj⟩ := List.mem_iff_getElem?.1 hy
  have hjl : j < R.length := by rw [← h'.len]; exact (List.getElem?_eq_some_iff.1 hj).1
  obtain ⟨o, c, h1, h2, _⟩ := h'.rows j hjl
  rw [h1] at hj
  injection hj with hj
  subst hj
  exact apart_old h h2
theorem OwnRows.behind {w w' : World} {size n : Nat} {e : TypeId} {u v : Value} {ys xs : List Value} {R : List (List Int)} {B : Nat} (h : OwnRows w B v xs R) (h' : w'.ownsRow w.heap.size e size u n ys) : ∀ y ∈ xs, Apart u y := by
  intro y hy
  obtain ⟨j, hj⟩ := List.mem_iff_getElem?.1 hy
  have hjl : j < R.length := by rw [← h.len]; exact (List.getElem?_eq_some_iff.1 hj).1
  obtain ⟨o, c, h1, h2, _⟩ := h.rows j hjl
  rw [h1] at hj
  injection hj with hj
  subst hj
  exact (apart_old h2 h').symm

def sumL (R : List (List Int)) (i : Nat) : Nat := ((R.take i).map List.length).sum
theorem sumL_succ {R : List (List Int)} {i : Nat} (h : i < R.length) : sumL R (i + 1) = sumL R i + (row R i).length := by
  unfold sumL
  rw [List.take_add_one, row_eq h]
  simp
theorem sumL_mono {R : List (List Int)} : ∀ {i j : Nat}, i ≤ j → j ≤ R.length → sumL R i ≤ sumL R j := by
  intro i j hij
  induction j with
  | zero => intro _; have : i = 0 := by omega
            subst this; exact Nat.le_refl _
  | succ j ih =>
    intro hj
    rcases Nat.lt_or_ge i (j + 1) with h | h
    · rw [sumL_succ (by omega)]; have := ih (by omega) (by omega); omega
    · have : i = j + 1 := by omega
      subst this; exact Nat.le_refl _
def seqR (k : Int) (R : List (List Int)) : List (List Int) := (List.range R.length).map fun j => seqI (k + sumL R j) (row R j).length
theorem seqR_length (k : Int) (R : List (List Int)) : (seqR k R).length = R.length := by simp [seqR]
theorem seqR_row {k : Int} {R : List (List Int)} {j : Nat} (h : j < R.length) : row (seqR k R) j = seqI (k + sumL R j) (row R j).length := by simp [row, seqR, List.getD, h]
theorem rows_ext {R S : List (List Int)} (hl : R.length = S.length) (h : ∀ j, j < R.length → row R j = row S j) : R = S := by
  apply List.ext_getElem hl
  intro j h1 h2
  have := h j h1
  simp [row, List.getD, h1, h2] at this
  exact this

end Go.Proofs.YtcenndlbhgfdfaaGreat
namespace Go.Proofs.YtcenndlbhgfdfaaGreat
open Go.RowKit
set_option linter.unusedVariables false
set_option maxRecDepth 100000

theorem OwnRows.cap {w : World} {B : Nat} {oa : Option Addr} {c : Nat} {xs : List Value} {R : List (List Int)} (h : OwnRows w B (.slice oa R.length c) xs R) : R.length ≤ c := by
  obtain ⟨oa', c', e, hg⟩ := owns_cells h.outer
  simp only [Value.slice.injEq] at e
  obtain ⟨rfl, _, rfl⟩ := e
  rcases Nat.eq_zero_or_pos R.length with h0 | h0
  · omega
  · obtain ⟨_, _, _, _, h4, _⟩ := hg (by rw [h.len]; exact h0)
    rw [h.len] at h4; exact h4
theorem cell_many {w w' : World} {B j base : Nat} {u : Value} {vs : List Value} (h : w.cell? ⟨B, j, none⟩ = some u) (hg : GrownMany w w' vs) (low : ∀ y ∈ vs, ∀ g, y.ownBlock = some g → base ≤ g) (hB : B < base) : w'.cell? ⟨B, j, none⟩ = some u :=
  (World.cell?_of_block (hg.block B (World.block_lt_of_cell? w ⟨B, j, none⟩ h) (fun y hy e => by have := low y hy B e; omega))).trans h
theorem OwnRows.far_set {w : World} {B g : Nat} {v : Value} {xs : List Value} {R : List (List Int)} (h : OwnRows w B v xs R) (j : Nat) (u : Value) (hg : g < B) : OwnRows (w.setCell ⟨g, j, none⟩ u) B v xs R := by
  have hk : ∀ {e : TypeId} {size n : Nat} {y : Value} {zs : List Value}, w.ownsRow B e size y n zs → (w.setCell ⟨g, j, none⟩ u).ownsRow B e size y n zs := fun {e size n y zs} hy =>
    World.ownsRow.kept hy (grown_set w g j _) (by
      cases e : y.ownBlock with
      | none => exact .inl rfl
      | some b => exact .inr (fun e' => by injection e' with e'; have := (World.ownsRow.lt hy b e).1; omega))
  exact ⟨h.len, hk h.outer, fun t ht => by
    obtain ⟨o, c, h1, h2, h3⟩ := h.rows t ht
    exact ⟨o, c, h1, hk h2, h3⟩, h.pair⟩
end Go.Proofs.YtcenndlbhgfdfaaGreat
namespace Go.Proofs.YtcenndlbhgfdfaaGreat
open Go.RowKit
set_option linter.unusedVariables false
set_option maxRecDepth 100000

def sumN (Ln : Nat → Nat) (k : Nat) : Nat := ((List.range k).map Ln).sum
theorem sumN_succ (Ln : Nat → Nat) (k : Nat) : sumN Ln (k + 1) = sumN Ln k + Ln k := by unfold sumN; rw [List.range_succ]; simp
theorem sumN_one {Ln : Nat → Nat} : ∀ {n r : Nat}, r < n → Ln r ≤ sumN Ln n
  | 0, r, h => absurd h (by omega)
  | n + 1, r, h => by
    rw [sumN_succ]
    rcases Nat.lt_or_ge r n with h' | h'
    · have := sumN_one (Ln := Ln) h'; omega
    · have : r = n := by omega
      subst this; omega
theorem sumL_sumN {R : List (List Int)} {Ln : Nat → Nat} (h : ∀ r, r < R.length → (row R r).length = Ln r) : ∀ k, k ≤ R.length → sumL R k = sumN Ln k
  | 0, _ => by simp [sumL, sumN]
  | k + 1, hk => by rw [sumL_succ (by omega), sumN_succ, sumL_sumN h k (by omega), h k (by omega)]
theorem RowsIn.reads {w : World} {oa : Option Addr} {n : Nat} {Ln : Nat → Nat} (h : RowsIn w oa n Ln) (hn : n ≤ Room) (hL : ∀ r, r < n → Ln r ≤ Room) : ∃ R : List (List Int), R.length = n ∧ RowsAt w oa R ∧ ∀ r, r < n → (row R r).length = Ln r := by
  rcases Nat.eq_zero_or_pos n with h0 | h0
  · exact ⟨[], by simp [h0], ⟨by simp, fun h => absurd h (by simp)⟩, fun r hr => absurd hr (by omega)⟩
  · obtain ⟨b, off, e, hb, hr⟩ := h.rows h0
    have each : ∀ r, r < n → ∃ L : List Int, L.length = Ln r ∧ ∃ o c, w.cell? ⟨b, off + r, none⟩ = some (.slice o (Ln r) c) ∧ IntsAt w o L := fun r hrn => by
      obtain ⟨_, o, c, h1, h2⟩ := hr r hrn
      obtain ⟨L, h3, h4⟩ := h2 (hL r hrn)
      exact ⟨L, h3, o, c, h1, h4⟩
    have hch : ∃ f : Nat → List Int, ∀ r, r < n → (f r).length = Ln r ∧ ∃ o c, w.cell? ⟨b, off + r, none⟩ = some (.slice o (Ln r) c) ∧ IntsAt w o (f r) :=
      ⟨fun r => if hr : r < n then Classical.choose (each r hr) else [], fun r hr => by simp only [hr, dif_pos]; exact Classical.choose_spec (each r hr)⟩
    obtain ⟨f, hf⟩ := hch
    have er : ∀ k, k < n → row ((List.range n).map f) k = f k := fun k hk => by simp [row, List.getD, hk]
    refine ⟨(List.range n).map f, by simp, ⟨by simpa using hn, fun _ => ⟨b, off, e, hb, fun k hk => ?_⟩⟩, fun r hr => by rw [er r hr]; exact (hf r hr).1⟩
    have hk : k < n := by simpa using hk
    obtain ⟨h1, o, c, h2, h3⟩ := hf k hk
    exact ⟨o, c, by rw [er k hk, h1]; exact h2, by rw [er k hk]; exact h3⟩

end Go.Proofs.YtcenndlbhgfdfaaGreat
namespace Go.Proofs.YtcenndlbhgfdfaaGreat
open Go.RowKit
set_option linter.unusedVariables false
set_option maxRecDepth 100000

def encB (b : Bool) : Value := .bool b
def bth (L : List Bool) (k : Nat) : Bool := L.getD k false
def OwnB (w : World) (base : Nat) (v : Value) (L : List Bool) : Prop := w.ownsRow base 4 1 v L.length (L.map encB)
theorem OwnB.keep {w w' : World} {base : Nat} {v : Value} {L : List Bool} (h : OwnB w base v L) (hb : Below w.heap.size w w') : OwnB w' base v L := owns_keep h hb
theorem OwnB.far {w w' : World} {base : Nat} {v v' : Value} {L : List Bool} (h : OwnB w base v L) (hg : w.grownBy w' v'.ownBlock) (ha : Apart v v') : OwnB w' base v L := World.ownsRow.kept h hg ha
theorem OwnB.based {w : World} {base base' : Nat} {v : Value} {L : List Bool} (h : OwnB w base v L) (hb : base' ≤ base) : OwnB w base' v L := owns_base h hb
theorem OwnB.past {w w' : World} {base : Nat} {M v v' : Value} {L : List Bool} {o : Obj} (h : OwnB w base M L) (hg : (w.alloc o).grownBy w' v.ownBlock) (ha : Apart M v) (hf : Fresh (w.alloc o) v v') : OwnB w' base M L ∧ Apart M v' :=
  ⟨OwnB.far (World.ownsRow.alloc h o) hg ha, Apart.next (World.ownsRow.alloc h o) ha hf⟩
theorem bth_eq {L : List Bool} {k : Nat} (hk : k < L.length) : L[k]? = some (bth L k) := by simp [bth, List.getD, hk]
theorem bth_set {L : List Bool} {j k : Nat} {x : Bool} (hj : j < L.length) : bth (L.set j x) k = if k = j then x else bth L k := by
  unfold bth List.getD
  rw [List.getElem?_set]
  by_cases h : j = k
  · subst h; simp [hj]
  · rw [if_neg h, if_neg (by omega)]
theorem OwnB.cell {w : World} {base g : Nat} {n cap : Nat} {L : List Bool} (h : OwnB w base (.slice (some ⟨g, 0, none⟩) n cap) L) (hn : n = L.length) (j : Nat) (hj : j < n) :
    w.cell? ⟨g, j, none⟩ = some (.bool (bth L j)) ∧ w.frozen? ⟨g, j, none⟩ = false := by
  subst hn
  refine ⟨?_, h.frozenAt j⟩
  rw [h.cellAt j (by omega), List.getElem?_map, bth_eq hj]; rfl
theorem OwnB.store {w : World} {base g : Nat} {n cap : Nat} {L : List Bool} (h : OwnB w base (.slice (some ⟨g, 0, none⟩) n cap) L) (hn : n = L.length) (j : Nat) (x : Bool) :
    OwnB (w.setCell ⟨g, j, none⟩ (.bool x)) base (.slice (some ⟨g, 0, none⟩) n cap) (L.set j x) := by
  subst hn
  have := (h.stored j (.bool x)).1
  unfold OwnB
  rw [List.length_set, List.map_set]
  exact this
theorem ownB_made {w : World} {base : Nat} {v : Value} {n : Nat} (h : w.ownsRow base 4 1 v n (madeCells (Value.cells (.bool false)) (n * 1)).toList) : OwnB w base v (List.replicate n false) := by
  have e : (madeCells (Value.cells (.bool false)) (n * 1)).toList = (List.replicate n false).map encB := by
    rw [Nat.mul_one]
    have : (Value.cells (.bool false)) = #[Value.bool false] := rfl
    rw [this, toList_madeCells_one, List.map_replicate]; rfl
  rw [e] at h
  unfold OwnB
  rw [List.length_replicate]
  exact h
theorem bth_replicate (n k : Nat) : bth (List.replicate n false) k = false := by
  unfold bth List.getD
  rw [List.getElem?_replicate]
  split <;> rfl
theorem info_bool : (Tryz.prog.info? 4).map (fun i => (i.zero, i.size, i.bytes)) = some (some (.bool false), 1, 1) := by kernel_rfl
theorem OwnI.single (w : World) (base : Nat) (hb : base ≤ w.heap.size) (x : Int) : OwnI (w.alloc (.cells #[.int .i64 x] 3)) base (.slice (some ⟨w.heap.size, 0, none⟩) 1 1) [x] :=
  World.ownsRow_lit w #[.int .i64 x] 1 hb (by decide) rfl

/-- A list of lists lies apart from a slice. -/
def ApartR (v : Value) (xs : List Value) (u : Value) : Prop := Apart v u ∧ ∀ y ∈ xs, Apart y u
theorem OwnRows.one {w : World} {B : Nat} {v : Value} {xs : List Value} {R : List (List Int)} (h : OwnRows w B v xs R) {y : Value} (hy : y ∈ xs) : ∃ j, j < R.length ∧ ∃ o c, y = .slice o (row R j).length c ∧ OwnI w B y (row R j) ∧ Apart v y := by
  obtain ⟨j, hj⟩ := List.mem_iff_getElem?.1 hy
  have hjl : j < R.length := by rw [← h.len]; exact (List.getElem?_eq_some_iff.1 hj).1
  obtain ⟨o, c, h1, h2, h3⟩ := h.rows j hjl
  rw [h1] at hj
  injection hj with hj
  exact ⟨j, hjl, o, c, hj.symm, by rw [← hj]; exact h2, by rw [← hj]; exact h3⟩
theorem OwnRows.fresh {w w' : World} {B size n : Nat} {e : TypeId} {u v : Value} {ys xs : List Value} {R : List (List Int)} (h : OwnRows w B v xs R) (h' : w'.ownsRow w.heap.size e size u n ys) : ApartR v xs u :=
  ⟨apart_old h.outer h', fun y hy => by obtain ⟨j, _, o, c, e, h2, _⟩ := h.one hy; exact apart_old h2 h'⟩
theorem OwnRows.past {w w' : World} {B : Nat} {v u u' : Value} {xs : List Value} {R : List (List Int)} {o : Obj} (h : OwnRows w B v xs R) (hg : (w.alloc o).grownBy w' u.ownBlock) (ha : ApartR v xs u) (hf : Fresh (w.alloc o) u u') : OwnRows w' B v xs R ∧ ApartR v xs u' := by
  have hk := h.keep ((Below.refl w.heap.size w).alloc (Nat.le_refl _) o)
  refine ⟨⟨h.len, World.ownsRow.kept hk.outer hg ha.1, fun j hj => ?_, h.pair⟩, Apart.next hk.outer ha.1 hf, fun y hy => ?_⟩
  · obtain ⟨o', c, h1, h2, h3⟩ := hk.rows j hj
    exact ⟨o', c, h1, h2.far hg (ha.2 _ (List.mem_iff_getElem?.2 ⟨j, h1⟩)), h3⟩
  · obtain ⟨j, _, o', c, e, h2, _⟩ := hk.one hy
    exact Apart.next h2 (ha.2 y hy) hf
theorem OwnRows.far {w w' : World} {B : Nat} {v u : Value} {xs : List Value} {R : List (List Int)} (h : OwnRows w B v xs R) (hg : w.grownBy w' u.ownBlock) (ha : ApartR v xs u) : OwnRows w' B v xs R := by
  refine ⟨h.len, World.ownsRow.kept h.outer hg ha.1, fun j hj => ?_, h.pair⟩
  obtain ⟨o', c, h1, h2, h3⟩ := h.rows j hj
  exact ⟨o', c, h1, h2.far hg (ha.2 _ (List.mem_iff_getElem?.2 ⟨j, h1⟩)), h3⟩
theorem row_append_lt {R S : List (List Int)} {j : Nat} (h : j < R.length) : row (R ++ S) j = row R j := by simp [row, List.getD, List.getElem?_append_left h]
theorem row_append_end {R : List (List Int)} {C : List Int} : row (R ++ [C]) R.length = C := by simp [row, List.getD]
/-- A slice of the call's own is appended. -/
theorem OwnRows.snoc {w w' : World} {B : Nat} {v v' : Value} {o : Option Addr} {c : Nat} {xs : List Value} {R : List (List Int)} {C : List Int} {ob : Obj} (h : OwnRows w B v xs R) (hC : OwnI w B (.slice o C.length c) C) (ha : ApartR v xs (.slice o C.length c))
    (hown : w'.ownsRow B 50 1 v' (xs.length + 1) (xs ++ [.slice o C.length c])) (hg : (w.alloc ob).grownBy w' v.ownBlock) (hf : Fresh (w.alloc ob) v v') : OwnRows w' B v' (xs ++ [.slice o C.length c]) (R ++ [C]) := by
  have hk := h.keep ((Below.refl w.heap.size w).alloc (Nat.le_refl _) ob)
  have hCk := hC.keep ((Below.refl w.heap.size w).alloc (Nat.le_refl _) ob)
  have hl := h.len
  refine ⟨by simp [hl], by unfold OwnV; rw [List.length_append]; exact hown, fun j hj => ?_, fun i j hij hj u u' hu hu' => ?_⟩
  · rw [List.length_append, List.length_singleton] at hj
    rcases Nat.lt_or_ge j R.length with hjl | hjl
    · rw [row_append_lt hjl]
      obtain ⟨o', c', h1, h2, h3⟩ := hk.rows j hjl
      refine ⟨o', c', by rw [List.getElem?_append_left (by omega)]; exact h1, h2.far hg h3.symm, (Apart.next h2 h3.symm hf).symm⟩
    · have e : j = R.length := by omega
      subst e
      rw [row_append_end]
      exact ⟨o, c, by rw [← hl]; simp, hCk.far hg ha.1.symm, (Apart.next hCk ha.1.symm hf).symm⟩
  · rw [List.length_append, List.length_singleton] at hj
    rw [List.getElem?_append_left (by omega)] at hu
    rcases Nat.lt_or_ge j R.length with hjl | hjl
    · rw [List.getElem?_append_left (by omega)] at hu'
      exact h.pair i j hij hjl u u' hu hu'
    · have e : j = xs.length := by omega
      subst e
      simp at hu'
      subst hu'
      exact ha.2 u (List.mem_iff_getElem?.2 ⟨i, hu⟩)
theorem OwnRows.apartFrom {w w' : World} {B size n : Nat} {e : TypeId} {u u' v : Value} {ys xs : List Value} {R : List (List Int)} (h : OwnRows w B v xs R) : True := trivial
theorem OwnRows.empty (w : World) (base : Nat) (hb : base ≤ w.heap.size) : OwnRows (w.alloc (.cells #[] 50)) base (.slice (some ⟨w.heap.size, 0, none⟩) 0 0) [] [] :=
  ⟨rfl, World.ownsRow_lit w #[] 0 hb (Nat.zero_le _) rfl, fun j hj => absurd hj (by simp), fun i j _ hj => absurd hj (by simp)⟩
theorem OwnRows.none (w : World) (base : Nat) : OwnRows w base (.slice none 0 0) [] [] :=
  ⟨rfl, World.ownsRow_nil w base _ _, fun j hj => absurd hj (by simp), fun i j _ hj => absurd hj (by simp)⟩
end Go.Proofs.YtcenndlbhgfdfaaGreat
namespace Go.Proofs.YtcenndlbhgfdfaaGreat
open Go.RowKit
set_option linter.unusedVariables false
set_option maxRecDepth 100000

theorem c_l2Ints (oa ob) (ca cb : Nat) (L M : List Int) (w : World) (hL : IntsAt w oa L) (hM : IntsAt w ob M) :
    Ans Tryz.prog 90 #[.slice oa L.length ca, .slice ob M.length cb] w (.bool (decide (L = M))) := by
  unfold Ans
  have hn : L.length ≤ 1073741824 := hL.len
  by_cases hlen : L.length = M.length
  · have hb0 : ((L.length : Int) != (M.length : Int)) = false := bne_false (by omega)
    have HL : Hid (L.length = M.length) := hlen
    have hlm : L.length ≤ M.length := by omega
    clear hlen
    go_enter Tryz.func90, Tryz.ntmps90
    go_wp2
    go_loopw [5] (fun i wr => ∃ k : Nat, i = .int .i64 k ∧ k ≤ L.length ∧ (∀ j, j < k → nth L j = nth M j) ∧ Below w.heap.size w wr) (fun i _ => L.length - (intOf i).toNat)
    case atStart => exact ⟨0, rfl, Nat.zero_le _, fun j hj => absurd hj (by omega), Below.refl _ _⟩
    case round =>
      obtain ⟨k, rfl, hk, hall, hb⟩ := hrel
      have HA : Hid (∀ j, j < k → nth L j = nth M j) := hall
      clear hall
      by_cases hlt : k < L.length
      · obtain ⟨b, off, rfl, hbs, hc⟩ := hL.at_ (by omega)
        obtain ⟨b', off', rfl, hbs', hc'⟩ := hM.at_ (by omega)
        have hc1 := cell_keep (hc k hlt) hb
        have hc2 := cell_keep (hc' k (by omega)) hb
        clear hc hc'
        by_cases he : nth L k = nth M k
        · have hne := bne_false he
          have HE : Hid (nth L k = nth M k) := he
          clear he
          go_wp2_with fail
          (refine wp_region_after (by kernel_rfl) (by kernel_rfl) ?_; have q_hc1 := fun (x : After _) => cell_keep hc1 x.bel; have q_hc2 := fun (x : After _) => cell_keep hc2 x.bel; (repeat (go_big_quiet_step (fail))); clear q_hc1; clear q_hc2; refine wpQuiet_nil ?_; rintro _ ⟨⟨w1, hbn⟩, rfl⟩; (try simp only [After.w]); replace hc1 := cell_keep hc1 hbn; replace hc2 := cell_keep hc2 hbn; replace hb := bel_to (w := w) (by first | exact hb | exact hb.alloc hb.size _ | exact (hb.alloc hb.size _).alloc (Nat.le_trans hb.size (by simp)) _ | exact hb.setCell (by simp [hb.size]) _) hbn; clear hbn)
          go_wp2
          go_roundw
          case rel => exact ⟨k + 1, by go_num, by omega, lt_step HA.out HE.out, hb⟩
          case measure => simp [intOf]; omega
        · have hne := bne_true he
          go_wp2_with fail
          (refine wp_region_after (by kernel_rfl) (by kernel_rfl) ?_; have q_hc1 := fun (x : After _) => cell_keep hc1 x.bel; have q_hc2 := fun (x : After _) => cell_keep hc2 x.bel; (repeat (go_big_quiet_step (fail))); clear q_hc1; clear q_hc2; refine wpQuiet_nil ?_; rintro _ ⟨⟨w1, hbn⟩, rfl⟩; (try simp only [After.w]); replace hc1 := cell_keep hc1 hbn; replace hc2 := cell_keep hc2 hbn; replace hb := bel_to (w := w) (by first | exact hb | exact hb.alloc hb.size _ | exact (hb.alloc hb.size _).alloc (Nat.le_trans hb.size (by simp)) _ | exact hb.setCell (by simp [hb.size]) _) hbn; clear hbn)
          go_wp2
          go_ret
          exact ⟨ret_bool (by symm; rw [decide_eq_false_iff_not]; intro e; exact he (by rw [e])), hb⟩
      · have hkk : k = L.length := by omega
        have HK := Hid (k = L.length)
        clear hkk
        go_wp2
        go_ret
        exact ⟨ret_bool (by symm; rw [decide_eq_true_iff]; exact list_ext HL.out fun j hj => HA.out j (by omega)), hb⟩
  · have hb0 : ((L.length : Int) != (M.length : Int)) = true := bne_true (by omega)
    go_enter Tryz.func90, Tryz.ntmps90
    go_wp2
    go_ret
    exact ⟨ret_bool (by symm; rw [decide_eq_false_iff_not]; intro e; exact hlen (by rw [e])), Below.refl _ _⟩

end Go.Proofs.YtcenndlbhgfdfaaGreat
namespace Go.Proofs.YtcenndlbhgfdfaaGreat
open Go.RowKit
set_option linter.unusedVariables false
set_option maxRecDepth 100000

theorem room_of {n : Nat} (h : (n : Int) ≤ 1048576) : n ≤ Room := by unfold Room; omega
def depEqB (a b c d : Int) : Bool := decide (a = c ∧ b = d)
theorem dlist_ext {L M : List (Int × Int)} (hl : L.length = M.length) (h : ∀ k, k < L.length → nl L k = nl M k ∧ nr L k = nr M k) : L = M := by
  apply List.ext_getElem?
  intro k
  by_cases hk : k < L.length
  · rw [dnth_eq hk, dnth_eq (by omega), (h k hk).1, (h k hk).2]
  · rw [List.getElem?_eq_none (by omega), List.getElem?_eq_none (by omega)]

/-- A slice of dependencies that came in. -/
def InDeps (w : World) (v : Value) : Prop := ∃ a len cap, v = .slice a len cap ∧ len ≤ maxLen ∧ (len ≤ Room → ∃ D : List (Int × Int), D.length = len ∧ DepsAt w a D)

end Go.Proofs.YtcenndlbhgfdfaaGreat
namespace Go.Proofs.YtcenndlbhgfdfaaGreat
open Go.RowKit
set_option linter.unusedVariables false
set_option maxRecDepth 100000

theorem rows_ext' {A B : List (List Int)} (hl : A.length = B.length) (h : ∀ k, k < A.length → row A k = row B k) : A = B := by
  apply List.ext_getElem hl
  intro j h1 h2
  have := h j h1
  simp [row, List.getD, h1, h2] at this
  exact this

set_option maxHeartbeats 800000 in
theorem c_SameDeps (oa ob) (ca cb : Nat) (L M : List (Int × Int)) (w : World) (hL : DepsAt w oa L) (hM : DepsAt w ob M) :
    Ans Tryz.prog 50 #[.slice oa L.length ca, .slice ob M.length cb] w (.bool (decide (L = M))) := by
  unfold Ans
  have hn : L.length ≤ 1073741824 := hL.len
  by_cases hlen : L.length = M.length
  · have hb0 : ((L.length : Int) != (M.length : Int)) = false := by simp [hlen]
    have HL : Hid (L.length = M.length) := hlen
    have hlm : L.length ≤ M.length := by omega
    clear hlen
    go_enter Tryz.func50, Tryz.ntmps50
    go_wp2
    go_loopw [13] (fun i wr => ∃ k : Nat, i = .int .i64 k ∧ k ≤ L.length ∧ (∀ j, j < k → nl L j = nl M j ∧ nr L j = nr M j) ∧ Below w.heap.size w wr) (fun i _ => L.length - (intOf i).toNat)
    case atStart => exact ⟨0, rfl, Nat.zero_le _, fun j hj => absurd hj (by omega), Below.refl _ _⟩
    case round =>
      obtain ⟨k, rfl, hk, hall, hb⟩ := hrel
      have HA : Hid (∀ j, j < k → nl L j = nl M j ∧ nr L j = nr M j) := hall
      clear hall
      by_cases hlt : k < L.length
      · obtain ⟨b, off, rfl, hbs, hc⟩ := hL.at_ (by omega)
        obtain ⟨b', off', rfl, hbs', hc'⟩ := hM.at_ (by omega)
        have hc1 := cell_keep (hc k hlt).1 hb
        have hc2 := cell_keep (hc k hlt).2 hb
        have hc3 := cell_keep (hc' k (by omega)).1 hb
        have hc4 := cell_keep (hc' k (by omega)).2 hb
        have HN : Hid (L = M → nl L k = nl M k ∧ nr L k = nr M k) := fun e => by subst e; exact ⟨rfl, rfl⟩
        clear hc hc'
        generalize gh1 : nl L k = a at *
        generalize gh2 : nr L k = b at *
        generalize gh3 : nl M k = c at *
        generalize gh4 : nr M k = d at *
        have HG : Hid (nl L k = a ∧ nr L k = b ∧ nl M k = c ∧ nr M k = d) := ⟨gh1, gh2, gh3, gh4⟩
        clear gh1 gh2 gh3 gh4
        cases e1 : (a == c)
        · go_wp2_with fail
          (refine wp_region_after (by kernel_rfl) (by kernel_rfl) ?_; have q_hc1 := fun (x : After _) => cell_keep hc1 x.bel; have q_hc2 := fun (x : After _) => cell_keep hc2 x.bel; have q_hc3 := fun (x : After _) => cell_keep hc3 x.bel; have q_hc4 := fun (x : After _) => cell_keep hc4 x.bel; (repeat (go_big_quiet_step (fail))); clear q_hc1; clear q_hc2; clear q_hc3; clear q_hc4; refine wpQuiet_nil ?_; rintro _ ⟨⟨w1, hbn⟩, rfl⟩; (try simp only [After.w]); replace hc1 := cell_keep hc1 hbn; replace hc2 := cell_keep hc2 hbn; replace hc3 := cell_keep hc3 hbn; replace hc4 := cell_keep hc4 hbn; replace hb := bel_to (w := w) (by first | exact hb | exact hb.alloc hb.size _ | exact (hb.alloc hb.size _).alloc (Nat.le_trans hb.size (by simp)) _ | exact hb.setCell (by simp [hb.size]) _) hbn; clear hbn)
          go_wp2
          go_ret
          exact ⟨ret_bool (by symm; rw [decide_eq_false_iff_not]; intro e; have := (HN.out e).1; simp at e1; exact e1 this), hb⟩
        · cases e2 : (b == d)
          · go_wp2_with fail
            (refine wp_region_after (by kernel_rfl) (by kernel_rfl) ?_; have q_hc1 := fun (x : After _) => cell_keep hc1 x.bel; have q_hc2 := fun (x : After _) => cell_keep hc2 x.bel; have q_hc3 := fun (x : After _) => cell_keep hc3 x.bel; have q_hc4 := fun (x : After _) => cell_keep hc4 x.bel; (repeat (go_big_quiet_step (fail))); clear q_hc1; clear q_hc2; clear q_hc3; clear q_hc4; refine wpQuiet_nil ?_; rintro _ ⟨⟨w1, hbn⟩, rfl⟩; (try simp only [After.w]); replace hc1 := cell_keep hc1 hbn; replace hc2 := cell_keep hc2 hbn; replace hc3 := cell_keep hc3 hbn; replace hc4 := cell_keep hc4 hbn; replace hb := bel_to (w := w) (by first | exact hb | exact hb.alloc hb.size _ | exact (hb.alloc hb.size _).alloc (Nat.le_trans hb.size (by simp)) _ | exact hb.setCell (by simp [hb.size]) _) hbn; clear hbn)
            go_wp2
            go_ret
            exact ⟨ret_bool (by symm; rw [decide_eq_false_iff_not]; intro e; have := (HN.out e).2; simp at e2; exact e2 this), hb⟩
          · have HE : Hid (a = c ∧ b = d) := by show a = c ∧ b = d; simp at e1 e2; exact ⟨e1, e2⟩
            go_wp2_with fail
            (refine wp_region_after (by kernel_rfl) (by kernel_rfl) ?_; have q_hc1 := fun (x : After _) => cell_keep hc1 x.bel; have q_hc2 := fun (x : After _) => cell_keep hc2 x.bel; have q_hc3 := fun (x : After _) => cell_keep hc3 x.bel; have q_hc4 := fun (x : After _) => cell_keep hc4 x.bel; (repeat (go_big_quiet_step (fail))); clear q_hc1; clear q_hc2; clear q_hc3; clear q_hc4; refine wpQuiet_nil ?_; rintro _ ⟨⟨w1, hbn⟩, rfl⟩; (try simp only [After.w]); replace hc1 := cell_keep hc1 hbn; replace hc2 := cell_keep hc2 hbn; replace hc3 := cell_keep hc3 hbn; replace hc4 := cell_keep hc4 hbn; replace hb := bel_to (w := w) (by first | exact hb | exact hb.alloc hb.size _ | exact (hb.alloc hb.size _).alloc (Nat.le_trans hb.size (by simp)) _ | exact hb.setCell (by simp [hb.size]) _) hbn; clear hbn)
            go_wp2
            go_roundw
            case rel => exact ⟨k + 1, by go_num, by omega, lt_step (p := fun j => nl L j = nl M j ∧ nr L j = nr M j) HA.out (by obtain ⟨g1, g2, g3, g4⟩ := HG.out; rw [g1, g2, g3, g4]; exact HE.out), hb⟩
            case measure => simp [intOf]; omega
      · have hkk : k = L.length := by omega
        have HE : Hid (L = M) := dlist_ext HL.out fun j hj => HA.out j (by omega)
        clear hkk
        go_wp2
        go_ret
        exact ⟨ret_bool (by symm; rw [decide_eq_true_iff]; exact HE.out), hb⟩
  · have hb0 : ((L.length : Int) != (M.length : Int)) = true := by simp; omega
    go_enter Tryz.func50, Tryz.ntmps50
    go_wp2
    go_ret
    exact ⟨ret_bool (by symm; rw [decide_eq_false_iff_not]; intro e; exact hlen (by rw [e])), Below.refl _ _⟩

set_option maxHeartbeats 800000 in
theorem c_specSameDeps (oa ob) (ca cb : Nat) (L M : List (Int × Int)) (w : World) (hL : DepsAt w oa L) (hM : DepsAt w ob M) :
    Ans Tryz.prog 30 #[.slice oa L.length ca, .slice ob M.length cb] w (.bool (decide (L = M))) := by
  unfold Ans
  have hn : L.length ≤ 1073741824 := hL.len
  by_cases hlen : L.length = M.length
  · have hb0 : ((L.length : Int) != (M.length : Int)) = false := by simp [hlen]
    have HL : Hid (L.length = M.length) := hlen
    have hlm : L.length ≤ M.length := by omega
    clear hlen
    go_enter Tryz.func30, Tryz.ntmps30
    go_wp2
    go_loopw [5] (fun i wr => ∃ k : Nat, i = .int .i64 k ∧ k ≤ L.length ∧ (∀ j, j < k → nl L j = nl M j ∧ nr L j = nr M j) ∧ Below w.heap.size w wr) (fun i _ => L.length - (intOf i).toNat)
    case atStart => exact ⟨0, rfl, Nat.zero_le _, fun j hj => absurd hj (by omega), Below.refl _ _⟩
    case round =>
      obtain ⟨k, rfl, hk, hall, hb⟩ := hrel
      have HA : Hid (∀ j, j < k → nl L j = nl M j ∧ nr L j = nr M j) := hall
      clear hall
      by_cases hlt : k < L.length
      · obtain ⟨b, off, rfl, hbs, hc⟩ := hL.at_ (by omega)
        obtain ⟨b', off', rfl, hbs', hc'⟩ := hM.at_ (by omega)
        have hc1 := cell_keep (hc k hlt).1 hb
        have hc2 := cell_keep (hc k hlt).2 hb
        have hc3 := cell_keep (hc' k (by omega)).1 hb
        have hc4 := cell_keep (hc' k (by omega)).2 hb
        have HN : Hid (L = M → nl L k = nl M k ∧ nr L k = nr M k) := fun e => by subst e; exact ⟨rfl, rfl⟩
        clear hc hc'
        generalize gh1 : nl L k = a at *
        generalize gh2 : nr L k = b at *
        generalize gh3 : nl M k = c at *
        generalize gh4 : nr M k = d at *
        have HG : Hid (nl L k = a ∧ nr L k = b ∧ nl M k = c ∧ nr M k = d) := ⟨gh1, gh2, gh3, gh4⟩
        clear gh1 gh2 gh3 gh4
        cases e1 : (a == c)
        · go_wp2_with fail
          (refine wp_region_after (by kernel_rfl) (by kernel_rfl) ?_; have q_hc1 := fun (x : After _) => cell_keep hc1 x.bel; have q_hc2 := fun (x : After _) => cell_keep hc2 x.bel; have q_hc3 := fun (x : After _) => cell_keep hc3 x.bel; have q_hc4 := fun (x : After _) => cell_keep hc4 x.bel; (repeat (go_big_quiet_step (fail))); clear q_hc1; clear q_hc2; clear q_hc3; clear q_hc4; refine wpQuiet_nil ?_; rintro _ ⟨⟨w1, hbn⟩, rfl⟩; (try simp only [After.w]); replace hc1 := cell_keep hc1 hbn; replace hc2 := cell_keep hc2 hbn; replace hc3 := cell_keep hc3 hbn; replace hc4 := cell_keep hc4 hbn; replace hb := bel_to (w := w) (by first | exact hb | exact hb.alloc hb.size _ | exact (hb.alloc hb.size _).alloc (Nat.le_trans hb.size (by simp)) _ | exact hb.setCell (by simp [hb.size]) _) hbn; clear hbn)
          go_wp2
          go_ret
          exact ⟨ret_bool (by symm; rw [decide_eq_false_iff_not]; intro e; have := (HN.out e).1; simp at e1; exact e1 this), hb⟩
        · cases e2 : (b == d)
          · go_wp2_with fail
            (refine wp_region_after (by kernel_rfl) (by kernel_rfl) ?_; have q_hc1 := fun (x : After _) => cell_keep hc1 x.bel; have q_hc2 := fun (x : After _) => cell_keep hc2 x.bel; have q_hc3 := fun (x : After _) => cell_keep hc3 x.bel; have q_hc4 := fun (x : After _) => cell_keep hc4 x.bel; (repeat (go_big_quiet_step (fail))); clear q_hc1; clear q_hc2; clear q_hc3; clear q_hc4; refine wpQuiet_nil ?_; rintro _ ⟨⟨w1, hbn⟩, rfl⟩; (try simp only [After.w]); replace hc1 := cell_keep hc1 hbn; replace hc2 := cell_keep hc2 hbn; replace hc3 := cell_keep hc3 hbn; replace hc4 := cell_keep hc4 hbn; replace hb := bel_to (w := w) (by first | exact hb | exact hb.alloc hb.size _ | exact (hb.alloc hb.size _).alloc (Nat.le_trans hb.size (by simp)) _ | exact hb.setCell (by simp [hb.size]) _) hbn; clear hbn)
            go_wp2
            go_ret
            exact ⟨ret_bool (by symm; rw [decide_eq_false_iff_not]; intro e; have := (HN.out e).2; simp at e2; exact e2 this), hb⟩
          · have HE : Hid (a = c ∧ b = d) := by show a = c ∧ b = d; simp at e1 e2; exact ⟨e1, e2⟩
            go_wp2_with fail
            (refine wp_region_after (by kernel_rfl) (by kernel_rfl) ?_; have q_hc1 := fun (x : After _) => cell_keep hc1 x.bel; have q_hc2 := fun (x : After _) => cell_keep hc2 x.bel; have q_hc3 := fun (x : After _) => cell_keep hc3 x.bel; have q_hc4 := fun (x : After _) => cell_keep hc4 x.bel; (repeat (go_big_quiet_step (fail))); clear q_hc1; clear q_hc2; clear q_hc3; clear q_hc4; refine wpQuiet_nil ?_; rintro _ ⟨⟨w1, hbn⟩, rfl⟩; (try simp only [After.w]); replace hc1 := cell_keep hc1 hbn; replace hc2 := cell_keep hc2 hbn; replace hc3 := cell_keep hc3 hbn; replace hc4 := cell_keep hc4 hbn; replace hb := bel_to (w := w) (by first | exact hb | exact hb.alloc hb.size _ | exact (hb.alloc hb.size _).alloc (Nat.le_trans hb.size (by simp)) _ | exact hb.setCell (by simp [hb.size]) _) hbn; clear hbn)
            go_wp2
            go_roundw
            case rel => exact ⟨k + 1, by go_num, by omega, lt_step (p := fun j => nl L j = nl M j ∧ nr L j = nr M j) HA.out (by obtain ⟨g1, g2, g3, g4⟩ := HG.out; rw [g1, g2, g3, g4]; exact HE.out), hb⟩
            case measure => simp [intOf]; omega
      · have hkk : k = L.length := by omega
        have HE : Hid (L = M) := dlist_ext HL.out fun j hj => HA.out j (by omega)
        clear hkk
        go_wp2
        go_ret
        exact ⟨ret_bool (by symm; rw [decide_eq_true_iff]; exact HE.out), hb⟩
  · have hb0 : ((L.length : Int) != (M.length : Int)) = true := by simp; omega
    go_enter Tryz.func30, Tryz.ntmps30
    go_wp2
    go_ret
    exact ⟨ret_bool (by symm; rw [decide_eq_false_iff_not]; intro e; exact hlen (by rw [e])), Below.refl _ _⟩

def eqTabF (n k : Int) (A B : List (List Int)) : Bool := (n == k) && decide (A = B)
set_option maxHeartbeats 800000 in
theorem c_specEqualTables (n k : Int) (oa ob) (ca cb : Nat) (A B : List (List Int)) (w : World) (hA : RowsAt w oa A) (hB : RowsAt w ob B) :
    Ans Tryz.prog 46 #[.agg #[.int .i64 n, .slice oa A.length ca], .agg #[.int .i64 k, .slice ob B.length cb]] w (.bool (eqTabF n k A B)) := by
  unfold Ans
  have hn : A.length ≤ 1073741824 := hA.len
  have hb := bel2 w (.cells #[.int .i64 n, .slice oa A.length ca] 26) (.cells #[.int .i64 k, .slice ob B.length cb] 26)
  have a0 := two_a w #[.int .i64 n, .slice oa A.length ca] 26 #[.int .i64 k, .slice ob B.length cb] 26 0 _ rfl
  have a1 := two_a w #[.int .i64 n, .slice oa A.length ca] 26 #[.int .i64 k, .slice ob B.length cb] 26 1 _ rfl
  have b0 := two_b w #[.int .i64 n, .slice oa A.length ca] 26 #[.int .i64 k, .slice ob B.length cb] 26 0 _ rfl
  have b1 := two_b w #[.int .i64 n, .slice oa A.length ca] 26 #[.int .i64 k, .slice ob B.length cb] 26 1 _ rfl
  cases h : (n == k)
  · have h' : (n != k) = true := by simp at h ⊢; exact h
    have HM : Hid (eqTabF n k A B = false) := by show eqTabF n k A B = false; unfold eqTabF; rw [h]; rfl
    go_enter Tryz.func46, Tryz.ntmps46
    go_wp2
    go_ret
    exact ⟨ret_bool HM.out.symm, hb⟩
  have h' : (n != k) = false := by simp at h ⊢; exact h
  have HM : Hid (eqTabF n k A B = decide (A = B)) := by show eqTabF n k A B = _; unfold eqTabF; rw [h]; rfl
  by_cases hlen : A.length = B.length
  · have hb0 : ((A.length : Int) != (B.length : Int)) = false := by simp [hlen]
    have HL : Hid (A.length = B.length) := hlen
    have hlm : A.length ≤ B.length := by omega
    clear hlen
    go_enter Tryz.func46, Tryz.ntmps46
    go_wp2
    go_loopw [5] (fun i wr => ∃ k' : Nat, i = .int .i64 k' ∧ k' ≤ A.length ∧ (∀ j, j < k' → row A j = row B j) ∧ wr.cell? ⟨w.heap.size, 1, none⟩ = some (.slice oa A.length ca) ∧ wr.cell? ⟨w.heap.size + 1, 1, none⟩ = some (.slice ob B.length cb) ∧ Below w.heap.size w wr) (fun i _ => A.length - (intOf i).toNat)
    case atStart => exact ⟨0, rfl, Nat.zero_le _, fun j hj => absurd hj (by omega), a1, b1, hb⟩
    case round =>
      clear a0 a1 b0 b1 hb
      obtain ⟨k', rfl, hk, hall, a1, b1, hb⟩ := hrel
      have HA : Hid (∀ j, j < k' → row A j = row B j) := hall
      clear hall
      by_cases hlt : k' < A.length
      · obtain ⟨b, off, rfl, hbs, hc⟩ := hA.at_ (by omega)
        obtain ⟨b', off', rfl, hbs', hc'⟩ := hB.at_ (by omega)
        obtain ⟨o1, c1, h1, r1⟩ := hc k' hlt
        obtain ⟨o2, c2, h2, r2⟩ := hc' k' (by omega)
        have hc1 := cell_keep h1 hb
        have hc2 := cell_keep h2 hb
        have hx1 := fun (x : After wr) => (r1.keep hb).keep x.bel
        have hx2 := fun (x : After wr) => (r2.keep hb).keep x.bel
        have HN : Hid (A = B → row A k' = row B k') := fun e => by rw [e]
        clear hc hc' h1 h2
        cases he : decide (row A k' = row B k')
        · go_wp2_with fail
          (refine wp_region_after (by kernel_rfl) (by kernel_rfl) ?_; have q_a1 := fun (x : After _) => cell_keep a1 x.bel; have q_b1 := fun (x : After _) => cell_keep b1 x.bel; have q_hc1 := fun (x : After _) => cell_keep hc1 x.bel; have q_hc2 := fun (x : After _) => cell_keep hc2 x.bel; (repeat (go_big_quiet_step ((first | (go_at_call 90; exact Ans.after (Ans.eqb (c_l2Ints _ _ _ _ _ _ _ (hx1 _) (hx2 _)) he)))))); clear q_a1; clear q_b1; clear q_hc1; clear q_hc2; refine wpQuiet_nil ?_; rintro _ ⟨⟨w1, hbn⟩, rfl⟩; (try simp only [After.w]); replace a1 := cell_keep a1 hbn; replace b1 := cell_keep b1 hbn; replace hc1 := cell_keep hc1 hbn; replace hc2 := cell_keep hc2 hbn; replace hb := bel_to (w := w) (by first | exact hb | exact hb.alloc hb.size _ | exact (hb.alloc hb.size _).alloc (Nat.le_trans hb.size (by simp)) _ | exact hb.setCell (by simp [hb.size]) _) hbn; clear hbn)
          go_wp2
          go_ret
          exact ⟨ret_bool (by rw [HM.out]; symm; rw [decide_eq_false_iff_not]; intro e; exact (of_decide_eq_false he) (HN.out e)), hb⟩
        · have HE : Hid (row A k' = row B k') := (show row A k' = row B k' from of_decide_eq_true he)
          go_wp2_with fail
          (refine wp_region_after (by kernel_rfl) (by kernel_rfl) ?_; have q_a1 := fun (x : After _) => cell_keep a1 x.bel; have q_b1 := fun (x : After _) => cell_keep b1 x.bel; have q_hc1 := fun (x : After _) => cell_keep hc1 x.bel; have q_hc2 := fun (x : After _) => cell_keep hc2 x.bel; (repeat (go_big_quiet_step ((first | (go_at_call 90; exact Ans.after (Ans.eqb (c_l2Ints _ _ _ _ _ _ _ (hx1 _) (hx2 _)) he)))))); clear q_a1; clear q_b1; clear q_hc1; clear q_hc2; refine wpQuiet_nil ?_; rintro _ ⟨⟨w1, hbn⟩, rfl⟩; (try simp only [After.w]); replace a1 := cell_keep a1 hbn; replace b1 := cell_keep b1 hbn; replace hc1 := cell_keep hc1 hbn; replace hc2 := cell_keep hc2 hbn; replace hb := bel_to (w := w) (by first | exact hb | exact hb.alloc hb.size _ | exact (hb.alloc hb.size _).alloc (Nat.le_trans hb.size (by simp)) _ | exact hb.setCell (by simp [hb.size]) _) hbn; clear hbn)
          go_wp2
          go_roundw
          case rel => exact ⟨k' + 1, by go_num, by omega, lt_step (p := fun j => row A j = row B j) HA.out HE.out, a1, b1, hb⟩
          case measure => simp [intOf]; omega
      · have HE : Hid (A = B) := rows_ext' HL.out fun j hj => HA.out j (by omega)
        go_wp2
        go_ret
        exact ⟨ret_bool (by rw [HM.out]; symm; rw [decide_eq_true_iff]; exact HE.out), hb⟩
  · have hb0 : ((A.length : Int) != (B.length : Int)) = true := by simp; omega
    go_enter Tryz.func46, Tryz.ntmps46
    go_wp2
    go_ret
    exact ⟨ret_bool (by rw [HM.out]; symm; rw [decide_eq_false_iff_not]; intro e; exact hlen (by rw [e])), hb⟩
end Go.Proofs.YtcenndlbhgfdfaaGreat
namespace Go.Proofs.YtcenndlbhgfdfaaGreat
open Go.RowKit
set_option linter.unusedVariables false
set_option maxRecDepth 100000

structure Sr where
  n : Int
  R : List (List Int)
  m : Int
  a : Int
  F : List (Int × Int)
  t : Int
def eqSrF (A B : Sr) : Bool := (((eqTabF A.n B.n A.R B.R && (A.m == B.m)) && (A.a == B.a)) && decide (A.F = B.F)) && (A.t == B.t)
set_option maxHeartbeats 800000 in
theorem c_specEqualSearches (A B : Sr) (oa ob fa fb) (ca cb fca fcb : Nat) (w : World) (hA : RowsAt w oa A.R) (hB : RowsAt w ob B.R) (hC : DepsAt w fa A.F) (hD : DepsAt w fb B.F) :
    Ans Tryz.prog 8 #[.agg #[.int .i64 A.n, .slice oa A.R.length ca, .int .i64 A.m, .int .i64 A.a, .slice fa A.F.length fca, .int .i64 A.t], .agg #[.int .i64 B.n, .slice ob B.R.length cb, .int .i64 B.m, .int .i64 B.a, .slice fb B.F.length fcb, .int .i64 B.t]] w (.bool (eqSrF A B)) := by
  unfold Ans
  have hb := bel2 w (.cells #[.int .i64 A.n, .slice oa A.R.length ca, .int .i64 A.m, .int .i64 A.a, .slice fa A.F.length fca, .int .i64 A.t] 29) (.cells #[.int .i64 B.n, .slice ob B.R.length cb, .int .i64 B.m, .int .i64 B.a, .slice fb B.F.length fcb, .int .i64 B.t] 29)
  have x0 := two_a w #[.int .i64 A.n, .slice oa A.R.length ca, .int .i64 A.m, .int .i64 A.a, .slice fa A.F.length fca, .int .i64 A.t] 29 #[.int .i64 B.n, .slice ob B.R.length cb, .int .i64 B.m, .int .i64 B.a, .slice fb B.F.length fcb, .int .i64 B.t] 29 0 _ rfl
  have x1 := two_a w #[.int .i64 A.n, .slice oa A.R.length ca, .int .i64 A.m, .int .i64 A.a, .slice fa A.F.length fca, .int .i64 A.t] 29 #[.int .i64 B.n, .slice ob B.R.length cb, .int .i64 B.m, .int .i64 B.a, .slice fb B.F.length fcb, .int .i64 B.t] 29 1 _ rfl
  have x2 := two_a w #[.int .i64 A.n, .slice oa A.R.length ca, .int .i64 A.m, .int .i64 A.a, .slice fa A.F.length fca, .int .i64 A.t] 29 #[.int .i64 B.n, .slice ob B.R.length cb, .int .i64 B.m, .int .i64 B.a, .slice fb B.F.length fcb, .int .i64 B.t] 29 2 _ rfl
  have x3 := two_a w #[.int .i64 A.n, .slice oa A.R.length ca, .int .i64 A.m, .int .i64 A.a, .slice fa A.F.length fca, .int .i64 A.t] 29 #[.int .i64 B.n, .slice ob B.R.length cb, .int .i64 B.m, .int .i64 B.a, .slice fb B.F.length fcb, .int .i64 B.t] 29 3 _ rfl
  have x4 := two_a w #[.int .i64 A.n, .slice oa A.R.length ca, .int .i64 A.m, .int .i64 A.a, .slice fa A.F.length fca, .int .i64 A.t] 29 #[.int .i64 B.n, .slice ob B.R.length cb, .int .i64 B.m, .int .i64 B.a, .slice fb B.F.length fcb, .int .i64 B.t] 29 4 _ rfl
  have x5 := two_a w #[.int .i64 A.n, .slice oa A.R.length ca, .int .i64 A.m, .int .i64 A.a, .slice fa A.F.length fca, .int .i64 A.t] 29 #[.int .i64 B.n, .slice ob B.R.length cb, .int .i64 B.m, .int .i64 B.a, .slice fb B.F.length fcb, .int .i64 B.t] 29 5 _ rfl
  have y0 := two_b w #[.int .i64 A.n, .slice oa A.R.length ca, .int .i64 A.m, .int .i64 A.a, .slice fa A.F.length fca, .int .i64 A.t] 29 #[.int .i64 B.n, .slice ob B.R.length cb, .int .i64 B.m, .int .i64 B.a, .slice fb B.F.length fcb, .int .i64 B.t] 29 0 _ rfl
  have y1 := two_b w #[.int .i64 A.n, .slice oa A.R.length ca, .int .i64 A.m, .int .i64 A.a, .slice fa A.F.length fca, .int .i64 A.t] 29 #[.int .i64 B.n, .slice ob B.R.length cb, .int .i64 B.m, .int .i64 B.a, .slice fb B.F.length fcb, .int .i64 B.t] 29 1 _ rfl
  have y2 := two_b w #[.int .i64 A.n, .slice oa A.R.length ca, .int .i64 A.m, .int .i64 A.a, .slice fa A.F.length fca, .int .i64 A.t] 29 #[.int .i64 B.n, .slice ob B.R.length cb, .int .i64 B.m, .int .i64 B.a, .slice fb B.F.length fcb, .int .i64 B.t] 29 2 _ rfl
  have y3 := two_b w #[.int .i64 A.n, .slice oa A.R.length ca, .int .i64 A.m, .int .i64 A.a, .slice fa A.F.length fca, .int .i64 A.t] 29 #[.int .i64 B.n, .slice ob B.R.length cb, .int .i64 B.m, .int .i64 B.a, .slice fb B.F.length fcb, .int .i64 B.t] 29 3 _ rfl
  have y4 := two_b w #[.int .i64 A.n, .slice oa A.R.length ca, .int .i64 A.m, .int .i64 A.a, .slice fa A.F.length fca, .int .i64 A.t] 29 #[.int .i64 B.n, .slice ob B.R.length cb, .int .i64 B.m, .int .i64 B.a, .slice fb B.F.length fcb, .int .i64 B.t] 29 4 _ rfl
  have y5 := two_b w #[.int .i64 A.n, .slice oa A.R.length ca, .int .i64 A.m, .int .i64 A.a, .slice fa A.F.length fca, .int .i64 A.t] 29 #[.int .i64 B.n, .slice ob B.R.length cb, .int .i64 B.m, .int .i64 B.a, .slice fb B.F.length fcb, .int .i64 B.t] 29 5 _ rfl
  cases h1 : (eqTabF A.n B.n A.R B.R)
  case false =>
    have HM : Hid (eqSrF A B = false) := by show eqSrF A B = false; unfold eqSrF; rw [h1]; simp
    go_enter Tryz.func8, Tryz.ntmps8
    go_wp2_with (first | (go_at_call 46; refine Calls.mono (Ans.eqb (c_specEqualTables _ _ _ _ _ _ _ _ _ (hA.keep hb) (hB.keep hb)) h1) ?_; rintro e w1 ⟨rfl, hbn⟩; replace x0 := cell_keep x0 hbn; replace x1 := cell_keep x1 hbn; replace x2 := cell_keep x2 hbn; replace x3 := cell_keep x3 hbn; replace x4 := cell_keep x4 hbn; replace x5 := cell_keep x5 hbn; replace y0 := cell_keep y0 hbn; replace y1 := cell_keep y1 hbn; replace y2 := cell_keep y2 hbn; replace y3 := cell_keep y3 hbn; replace y4 := cell_keep y4 hbn; replace y5 := cell_keep y5 hbn; replace hb := bel_to (w := w) (by first | exact hb | exact hb.alloc hb.size _ | exact (hb.alloc hb.size _).alloc (Nat.le_trans hb.size (by simp)) _ | exact hb.setCell (by simp [hb.size]) _) hbn; clear hbn) | fail)
    go_ret
    exact ⟨ret_bool HM.out.symm, hb⟩
  cases h2 : (A.m == B.m)
  case false =>
    have HM : Hid (eqSrF A B = false) := by show eqSrF A B = false; unfold eqSrF; rw [h2]; simp
    go_enter Tryz.func8, Tryz.ntmps8
    go_wp2_with (first | (go_at_call 46; refine Calls.mono (Ans.eqb (c_specEqualTables _ _ _ _ _ _ _ _ _ (hA.keep hb) (hB.keep hb)) h1) ?_; rintro e w1 ⟨rfl, hbn⟩; replace x0 := cell_keep x0 hbn; replace x1 := cell_keep x1 hbn; replace x2 := cell_keep x2 hbn; replace x3 := cell_keep x3 hbn; replace x4 := cell_keep x4 hbn; replace x5 := cell_keep x5 hbn; replace y0 := cell_keep y0 hbn; replace y1 := cell_keep y1 hbn; replace y2 := cell_keep y2 hbn; replace y3 := cell_keep y3 hbn; replace y4 := cell_keep y4 hbn; replace y5 := cell_keep y5 hbn; replace hb := bel_to (w := w) (by first | exact hb | exact hb.alloc hb.size _ | exact (hb.alloc hb.size _).alloc (Nat.le_trans hb.size (by simp)) _ | exact hb.setCell (by simp [hb.size]) _) hbn; clear hbn) | fail)
    go_ret
    exact ⟨ret_bool HM.out.symm, hb⟩
  cases h3 : (A.a == B.a)
  case false =>
    have HM : Hid (eqSrF A B = false) := by show eqSrF A B = false; unfold eqSrF; rw [h3]; simp
    go_enter Tryz.func8, Tryz.ntmps8
    go_wp2_with (first | (go_at_call 46; refine Calls.mono (Ans.eqb (c_specEqualTables _ _ _ _ _ _ _ _ _ (hA.keep hb) (hB.keep hb)) h1) ?_; rintro e w1 ⟨rfl, hbn⟩; replace x0 := cell_keep x0 hbn; replace x1 := cell_keep x1 hbn; replace x2 := cell_keep x2 hbn; replace x3 := cell_keep x3 hbn; replace x4 := cell_keep x4 hbn; replace x5 := cell_keep x5 hbn; replace y0 := cell_keep y0 hbn; replace y1 := cell_keep y1 hbn; replace y2 := cell_keep y2 hbn; replace y3 := cell_keep y3 hbn; replace y4 := cell_keep y4 hbn; replace y5 := cell_keep y5 hbn; replace hb := bel_to (w := w) (by first | exact hb | exact hb.alloc hb.size _ | exact (hb.alloc hb.size _).alloc (Nat.le_trans hb.size (by simp)) _ | exact hb.setCell (by simp [hb.size]) _) hbn; clear hbn) | fail)
    go_ret
    exact ⟨ret_bool HM.out.symm, hb⟩
  cases h4 : (decide (A.F = B.F))
  case false =>
    have HM : Hid (eqSrF A B = false) := by show eqSrF A B = false; unfold eqSrF; rw [h4]; simp
    go_enter Tryz.func8, Tryz.ntmps8
    go_wp2_with (first | (go_at_call 46; refine Calls.mono (Ans.eqb (c_specEqualTables _ _ _ _ _ _ _ _ _ (hA.keep hb) (hB.keep hb)) h1) ?_; rintro e w1 ⟨rfl, hbn⟩; replace x0 := cell_keep x0 hbn; replace x1 := cell_keep x1 hbn; replace x2 := cell_keep x2 hbn; replace x3 := cell_keep x3 hbn; replace x4 := cell_keep x4 hbn; replace x5 := cell_keep x5 hbn; replace y0 := cell_keep y0 hbn; replace y1 := cell_keep y1 hbn; replace y2 := cell_keep y2 hbn; replace y3 := cell_keep y3 hbn; replace y4 := cell_keep y4 hbn; replace y5 := cell_keep y5 hbn; replace hb := bel_to (w := w) (by first | exact hb | exact hb.alloc hb.size _ | exact (hb.alloc hb.size _).alloc (Nat.le_trans hb.size (by simp)) _ | exact hb.setCell (by simp [hb.size]) _) hbn; clear hbn) | (go_at_call 30; refine Calls.mono (Ans.eqb (c_specSameDeps _ _ _ _ _ _ _ (hC.keep hb) (hD.keep hb)) h4) ?_; rintro e w1 ⟨rfl, hbn⟩; replace x0 := cell_keep x0 hbn; replace x1 := cell_keep x1 hbn; replace x2 := cell_keep x2 hbn; replace x3 := cell_keep x3 hbn; replace x4 := cell_keep x4 hbn; replace x5 := cell_keep x5 hbn; replace y0 := cell_keep y0 hbn; replace y1 := cell_keep y1 hbn; replace y2 := cell_keep y2 hbn; replace y3 := cell_keep y3 hbn; replace y4 := cell_keep y4 hbn; replace y5 := cell_keep y5 hbn; replace hb := bel_to (w := w) (by first | exact hb | exact hb.alloc hb.size _ | exact (hb.alloc hb.size _).alloc (Nat.le_trans hb.size (by simp)) _ | exact hb.setCell (by simp [hb.size]) _) hbn; clear hbn) | fail)
    go_ret
    exact ⟨ret_bool HM.out.symm, hb⟩
  cases h5 : (A.t == B.t)
  case false =>
    have HM : Hid (eqSrF A B = false) := by show eqSrF A B = false; unfold eqSrF; rw [h5]; simp
    go_enter Tryz.func8, Tryz.ntmps8
    go_wp2_with (first | (go_at_call 46; refine Calls.mono (Ans.eqb (c_specEqualTables _ _ _ _ _ _ _ _ _ (hA.keep hb) (hB.keep hb)) h1) ?_; rintro e w1 ⟨rfl, hbn⟩; replace x0 := cell_keep x0 hbn; replace x1 := cell_keep x1 hbn; replace x2 := cell_keep x2 hbn; replace x3 := cell_keep x3 hbn; replace x4 := cell_keep x4 hbn; replace x5 := cell_keep x5 hbn; replace y0 := cell_keep y0 hbn; replace y1 := cell_keep y1 hbn; replace y2 := cell_keep y2 hbn; replace y3 := cell_keep y3 hbn; replace y4 := cell_keep y4 hbn; replace y5 := cell_keep y5 hbn; replace hb := bel_to (w := w) (by first | exact hb | exact hb.alloc hb.size _ | exact (hb.alloc hb.size _).alloc (Nat.le_trans hb.size (by simp)) _ | exact hb.setCell (by simp [hb.size]) _) hbn; clear hbn) | (go_at_call 30; refine Calls.mono (Ans.eqb (c_specSameDeps _ _ _ _ _ _ _ (hC.keep hb) (hD.keep hb)) h4) ?_; rintro e w1 ⟨rfl, hbn⟩; replace x0 := cell_keep x0 hbn; replace x1 := cell_keep x1 hbn; replace x2 := cell_keep x2 hbn; replace x3 := cell_keep x3 hbn; replace x4 := cell_keep x4 hbn; replace x5 := cell_keep x5 hbn; replace y0 := cell_keep y0 hbn; replace y1 := cell_keep y1 hbn; replace y2 := cell_keep y2 hbn; replace y3 := cell_keep y3 hbn; replace y4 := cell_keep y4 hbn; replace y5 := cell_keep y5 hbn; replace hb := bel_to (w := w) (by first | exact hb | exact hb.alloc hb.size _ | exact (hb.alloc hb.size _).alloc (Nat.le_trans hb.size (by simp)) _ | exact hb.setCell (by simp [hb.size]) _) hbn; clear hbn) | fail)
    go_ret
    exact ⟨ret_bool HM.out.symm, hb⟩
  have HM : Hid (eqSrF A B = true) := by show eqSrF A B = true; unfold eqSrF; rw [h1, h2, h3, h4, h5]; rfl
  go_enter Tryz.func8, Tryz.ntmps8
  go_wp2_with (first | (go_at_call 46; refine Calls.mono (Ans.eqb (c_specEqualTables _ _ _ _ _ _ _ _ _ (hA.keep hb) (hB.keep hb)) h1) ?_; rintro e w1 ⟨rfl, hbn⟩; replace x0 := cell_keep x0 hbn; replace x1 := cell_keep x1 hbn; replace x2 := cell_keep x2 hbn; replace x3 := cell_keep x3 hbn; replace x4 := cell_keep x4 hbn; replace x5 := cell_keep x5 hbn; replace y0 := cell_keep y0 hbn; replace y1 := cell_keep y1 hbn; replace y2 := cell_keep y2 hbn; replace y3 := cell_keep y3 hbn; replace y4 := cell_keep y4 hbn; replace y5 := cell_keep y5 hbn; replace hb := bel_to (w := w) (by first | exact hb | exact hb.alloc hb.size _ | exact (hb.alloc hb.size _).alloc (Nat.le_trans hb.size (by simp)) _ | exact hb.setCell (by simp [hb.size]) _) hbn; clear hbn) | (go_at_call 30; refine Calls.mono (Ans.eqb (c_specSameDeps _ _ _ _ _ _ _ (hC.keep hb) (hD.keep hb)) h4) ?_; rintro e w1 ⟨rfl, hbn⟩; replace x0 := cell_keep x0 hbn; replace x1 := cell_keep x1 hbn; replace x2 := cell_keep x2 hbn; replace x3 := cell_keep x3 hbn; replace x4 := cell_keep x4 hbn; replace x5 := cell_keep x5 hbn; replace y0 := cell_keep y0 hbn; replace y1 := cell_keep y1 hbn; replace y2 := cell_keep y2 hbn; replace y3 := cell_keep y3 hbn; replace y4 := cell_keep y4 hbn; replace y5 := cell_keep y5 hbn; replace hb := bel_to (w := w) (by first | exact hb | exact hb.alloc hb.size _ | exact (hb.alloc hb.size _).alloc (Nat.le_trans hb.size (by simp)) _ | exact hb.setCell (by simp [hb.size]) _) hbn; clear hbn) | fail)
  go_ret
  exact ⟨ret_bool HM.out.symm, hb⟩
end Go.Proofs.YtcenndlbhgfdfaaGreat
namespace Go.Proofs.YtcenndlbhgfdfaaGreat
open Go.ChangeShapes Go.WideShapes Go.ChangeAt Go.RowKit
set_option linter.unusedVariables false
set_option maxRecDepth 100000

theorem open_ints {H : Type} {enc : TypeId × Value → H} {W : World} {base : Nat} {held : Bool} {v : Value} {d : DataW H} {ps : List MemPlace} (hok : Value.okWide Tryz.prog W .any base 50 v)
    (h : DataW.Trod enc Tryz.prog W 0 (fun _ => true) held 50 v d ps) : InInts W v := by
  obtain ⟨a0, len0, cap0, rfl⟩ := okWide_slice Tryz.underlying50 hok
  obtain ⟨fuel, hf⟩ := h
  rcases Go.ChangeShapes.open_ints Tryz.underlying50 Tryz.underlying3 (by kernel_rfl) hf with ⟨hcs, _⟩ | ⟨x, l, c, zs, hcs, _, hl, hm, hz, _, hcell, hwz⟩
  · simp [Value.cells] at hcs
    obtain ⟨rfl, rfl, rfl⟩ := hcs
    exact ⟨_, _, _, [], rfl, .inl ⟨rfl, rfl, rfl, rfl⟩⟩
  · simp [Value.cells] at hcs
    obtain ⟨rfl, rfl, rfl⟩ := hcs
    exact ⟨_, _, _, zs, rfl, .inr ⟨_, rfl, hl, hm, by simpa using hz, hcell, hwz⟩⟩
end Go.Proofs.YtcenndlbhgfdfaaGreat
namespace Go.Proofs.YtcenndlbhgfdfaaGreat
open Go.ChangeShapes Go.WideShapes Go.ChangeAt Go.RowKit Go.Joins
set_option linter.unusedVariables false
set_option maxRecDepth 100000

theorem add_at (b off j : Nat) : (⟨b, off, none⟩ : Addr).add j = ⟨b, off + j, none⟩ := by unfold Addr.add; split <;> simp_all

end Go.Proofs.YtcenndlbhgfdfaaGreat
namespace Go.Proofs.YtcenndlbhgfdfaaGreat
open Go.ChangeShapes Go.WideShapes Go.ChangeAt Go.RowKit Go.Joins
set_option linter.unusedVariables false
set_option maxRecDepth 100000

def InTab (w : World) (v : Value) : Prop := ∃ (n : Int) (oa : Option Addr) (l c : Nat) (Ln : Nat → Nat), v = .agg #[.int .i64 n, .slice oa l c] ∧ RowsIn w oa l Ln
theorem RowsIn.keep {w w' : World} {oa : Option Addr} {l : Nat} {Ln : Nat → Nat} (h : RowsIn w oa l Ln) (hk : Below w.heap.size w w') : RowsIn w' oa l Ln :=
  ⟨h.len, fun h0 => by
    obtain ⟨b, off, e, hlt, hr⟩ := h.rows h0
    exact ⟨b, off, e, Nat.lt_of_lt_of_le hlt hk.size, fun r hrl => by
      obtain ⟨m, o, c, h1, h2⟩ := hr r hrl
      exact ⟨m, o, c, cell_keep h1 hk, fun hq => by
        obtain ⟨L, e1, e2⟩ := h2 hq
        exact ⟨L, e1, e2.keep hk⟩⟩⟩⟩
end Go.Proofs.YtcenndlbhgfdfaaGreat
namespace Go.Proofs.YtcenndlbhgfdfaaGreat
open Go.ChangeShapes Go.WideShapes Go.ChangeAt Go.RowKit Go.Joins
set_option linter.unusedVariables false
set_option maxRecDepth 100000

theorem rows_of_trod {H : Type} {enc : TypeId × Value → H} {W : World} {held : Bool} {fuel : Nat} {v : Value} {x : DataW H × List MemPlace} (hy1 : DataW.trod enc Tryz.prog W 0 (fun _ => true) held fuel 24 [v] = some x) : ∃ (oa : Option Addr) (l c : Nat) (Ln : Nat → Nat), v = .slice oa l c ∧ RowsIn W oa l Ln := by
  rcases Go.Deep.open_int_rows Tryz.underlying24 Tryz.underlying50 Tryz.underlying3 (by kernel_rfl) (by kernel_rfl) hy1 with ⟨hcs, _⟩ | ⟨a, len, cap, A, L, C, Z, hcs, _, hl, hm, _, hr⟩
  · simp at hcs
    subst hcs
    exact ⟨_, _, _, fun _ => 0, rfl, Nat.zero_le _, fun h => absurd h (by simp)⟩
  · simp at hcs
    subst hcs
    refine ⟨_, _, _, L, rfl, Nat.le_trans hl hm, fun h0 => ?_⟩
    obtain ⟨b, off, spot⟩ := a
    have hc := (hr 0 (by omega)).1
    have hspot : spot = none := by simpa [Addr.add] using World.cell?_spot hc
    subst hspot
    refine ⟨b, off, rfl, World.block_lt_of_cell? W ⟨b, off, none⟩ (by simpa [Addr.add] using hc), fun r hrl => ?_⟩
    obtain ⟨h1, h2, h3, h4, h5, h6, h7⟩ := hr r (by omega)
    rw [add_at] at h1
    refine ⟨Nat.le_trans h2 h3, A r, C r, h1, fun hroom => ?_⟩
    refine IsRow.ints (cap := C r) (zs := Z r) ?_ hroom
    cases hA : A r with
    | none =>
      have hz : C r = 0 := h6 hA
      refine .inl ⟨rfl, by omega, hz, List.eq_nil_of_length_eq_zero (by omega)⟩
    | some a' =>
      obtain ⟨_, hcell⟩ := h7 a' hA
      exact .inr ⟨a', rfl, h2, h3, h4, fun i hi => hcell i (by omega), h5⟩
def InSr (w : World) (v : Value) : Prop := ∃ (n m a t : Int) (oa : Option Addr) (l c : Nat) (Ln : Nat → Nat) (vD : Value), v = .agg #[.int .i64 n, .slice oa l c, .int .i64 m, .int .i64 a, vD, .int .i64 t] ∧ RowsIn w oa l Ln ∧ InDeps w vD
  ∧ (Lit.int .i64 m).wf = true ∧ (Lit.int .i64 a).wf = true ∧ (Lit.int .i64 t).wf = true
end Go.Proofs.YtcenndlbhgfdfaaGreat
namespace Go.Proofs.YtcenndlbhgfdfaaGreat
open Go.RowKit
set_option linter.unusedVariables false
set_option maxRecDepth 100000

def set8 (w : World) (g k : Nat) (a4 a5 b0 b1 b2 b3 b4 b5 : Value) : World := (((((((w.setCell ⟨g, 4, none⟩ a4).setCell ⟨g, 5, none⟩ a5).setCell ⟨k, 0, none⟩ b0).setCell ⟨k, 1, none⟩ b1).setCell ⟨k, 2, none⟩ b2).setCell ⟨k, 3, none⟩ b3).setCell ⟨k, 4, none⟩ b4).setCell ⟨k, 5, none⟩ b5
theorem far8 {w : World} {B : Nat} {v : Value} {xs : List Value} {R : List (List Int)} (h : OwnRows w B v xs R) {g k : Nat} (hg : g < B) (hk : k < B) (a4 a5 b0 b1 b2 b3 b4 b5 : Value) : OwnRows (set8 w g k a4 a5 b0 b1 b2 b3 b4 b5) B v xs R :=
  (((((((h.far_set 4 a4 hg).far_set 5 a5 hg).far_set 0 b0 hk).far_set 1 b1 hk).far_set 2 b2 hk).far_set 3 b3 hk).far_set 4 b4 hk).far_set 5 b5 hk
theorem OwnD.far_set {w : World} {B g : Nat} {v : Value} {D : List (Int × Int)} (h : OwnD w B v D) (j : Nat) (u : Value) (hg : g < B) : OwnD (w.setCell ⟨g, j, none⟩ u) B v D := ownsRow_setCell_below h (a := ⟨g, j, none⟩) hg u
theorem dar8 {w : World} {B : Nat} {v : Value} {D : List (Int × Int)} (h : OwnD w B v D) {g k : Nat} (hg : g < B) (hk : k < B) (a4 a5 b0 b1 b2 b3 b4 b5 : Value) : OwnD (set8 w g k a4 a5 b0 b1 b2 b3 b4 b5) B v D :=
  (((((((OwnD.far_set h 4 a4 hg).far_set 5 a5 hg).far_set 0 b0 hk).far_set 1 b1 hk).far_set 2 b2 hk).far_set 3 b3 hk).far_set 4 b4 hk).far_set 5 b5 hk
theorem bar8 {w0 w : World} {B : Nat} (h : Below B w0 w) {g k : Nat} (hg : B ≤ g) (hk : B ≤ k) (a4 a5 b0 b1 b2 b3 b4 b5 : Value) : Below B w0 (set8 w g k a4 a5 b0 b1 b2 b3 b4 b5) :=
  Below.setCell (p := ⟨k, 5, none⟩) (Below.setCell (p := ⟨k, 4, none⟩) (Below.setCell (p := ⟨k, 3, none⟩) (Below.setCell (p := ⟨k, 2, none⟩) (Below.setCell (p := ⟨k, 1, none⟩) (Below.setCell (p := ⟨k, 0, none⟩) (Below.setCell (p := ⟨g, 5, none⟩) (Below.setCell (p := ⟨g, 4, none⟩) h hg a4) hg a5) hk b0) hk b1) hk b2) hk b3) hk b4) hk b5
def srZ : Array Value := #[.int .i64 0, .slice none 0 0, .int .i64 0, .int .i64 0, .slice none 0 0, .int .i64 0]
end Go.Proofs.YtcenndlbhgfdfaaGreat
namespace Go.Proofs.YtcenndlbhgfdfaaGreat
open Go.RowKit
set_option linter.unusedVariables false
set_option maxRecDepth 100000

def candF (N k : Nat) : Int × Int := (nth (partsF N) (k / N), ((k % N : Nat) : Int))
def covS (F : List (Int × Int)) (x r : Int) : Bool := F.any fun o => (o.2 == r) && ins o.1 x
def stepF (R : List (List Int)) (m : Int) (N k : Nat) (z : List (Int × Int) × Int) : List (Int × Int) × Int :=
  if hasc (candF N k).1 (candF N k).2 || covS z.1 (candF N k).1 (candF N k).2 then z else (if holdsF R m (candF N k).1 (candF N k).2 then z.1 ++ [((candF N k).1, (candF N k).2)] else z.1, z.2 + 1)
def repF (R : List (List Int)) (m : Int) (N : Nat) : Nat → List (Int × Int) × Int
  | 0 => ([], 0)
  | k + 1 => stepF R m N k (repF R m N k)
theorem parts_full {N : Nat} (hN : N ≤ 5) : (partsF N).length = 2 ^ N := by
  unfold partsF
  rw [if_pos ⟨by omega, by omega⟩, Int.toNat_natCast]
  unfold valS sortS finsB
  simp
theorem cand_ok {N k : Nat} (hN : N ≤ 5) (h1 : 1 ≤ N) (hk : k < N * 2 ^ N) : k / N < (partsF N).length ∧ St (candF N k).1 ∧ Co (candF N k).2 ∧ (candF N k).1 < 2 ^ N ∧ (candF N k).2 < N := by
  have h2 : k / N < (partsF N).length := by
    rw [parts_full hN]
    exact Nat.div_lt_of_lt_mul hk
  have hm := List.mem_iff_getElem?.2 ⟨k / N, nth_eq h2⟩
  have h3 := (partsF_mem (n := (N : Int)) (by omega) (by omega)).1 hm
  have h4 := (pow_wrap (n := (N : Int)) (by omega) (by omega)).2.1
  rw [Int.toNat_natCast] at h3 h4
  have h5 := Nat.mod_lt k (show 0 < N by omega)
  have e5 : St (candF N k).1 := ⟨h3.1, by show nth (partsF N) (k / N) < 32; omega⟩
  have e6 : Co (candF N k).2 := ⟨by show 0 ≤ ((k % N : Nat) : Int); omega, by show ((k % N : Nat) : Int) < 5; omega⟩
  exact ⟨h2, e5, e6, h3.2, by show ((k % N : Nat) : Int) < N; omega⟩
theorem rep_ok {R : List (List Int)} {m : Int} {N : Nat} (hN : N ≤ 5) (h1 : 1 ≤ N) : ∀ k, k ≤ N * 2 ^ N → (∀ o ∈ (repF R m N k).1, St o.1 ∧ Co o.2) ∧ (repF R m N k).1.length ≤ k ∧ 0 ≤ (repF R m N k).2 ∧ (repF R m N k).2 ≤ k
  | 0, _ => ⟨(fun o ho => by cases ho), Nat.le_refl _, Int.le_refl _, Int.le_refl _⟩
  | k + 1, hk => by
    obtain ⟨i1, i2, i3, i4⟩ := rep_ok (R := R) (m := m) hN h1 k (by omega)
    obtain ⟨_, c1, c2, _⟩ := cand_ok hN h1 (show k < N * 2 ^ N by omega)
    show (∀ o ∈ (stepF R m N k (repF R m N k)).1, St o.1 ∧ Co o.2) ∧ (stepF R m N k (repF R m N k)).1.length ≤ k + 1 ∧ 0 ≤ (stepF R m N k (repF R m N k)).2 ∧ (stepF R m N k (repF R m N k)).2 ≤ (k + 1 : Nat)
    unfold stepF
    split
    · exact ⟨i1, by omega, i3, by omega⟩
    · split
      · refine ⟨fun o ho => ?_, by rw [List.length_append]; simp; omega, by omega, by simp; omega⟩
        rcases List.mem_append.1 ho with h | h
        · exact i1 o h
        · rw [List.mem_singleton.1 h]; exact ⟨c1, c2⟩
      · exact ⟨i1, by show (repF R m N k).1.length ≤ k + 1; omega, by show 0 ≤ (repF R m N k).2 + 1; omega, by show (repF R m N k).2 + 1 ≤ ((k + 1 : Nat) : Int); omega⟩
theorem count_le {N : Nat} (hN : N ≤ 5) : N * 2 ^ N ≤ 160 := by
  have h : ∀ N < 6, N * 2 ^ N ≤ 160 := by decide
  exact h N (by omega)
theorem c_candidatesOf (N : Nat) (hN : N ≤ 5) (w : World) : Ans Tryz.prog 44 #[.int .i64 N] w (.int .i64 ((N * 2 ^ N : Nat) : Int)) := by
  unfold Ans
  have h : ∀ N < 6, wrap64 (((N : Nat) : Int) * 2 ^ N) = ((N * 2 ^ N : Nat) : Int) := by decide +kernel
  have h0 := h N (by omega)
  go_enter Tryz.func44, Tryz.ntmps44
  go_wp2
  go_ret
  exact ⟨ret_int (by simpa using h0), Below.refl _ _⟩
theorem c_l8Count (N : Nat) (hN : N ≤ 5) (w : World) : Ans Tryz.prog 48 #[.int .i64 N] w (.int .i64 ((N * 2 ^ N : Nat) : Int)) := by
  unfold Ans
  have h : ∀ N < 6, wrap64 (((N : Nat) : Int) * 2 ^ N) = ((N * 2 ^ N : Nat) : Int) := by decide +kernel
  have h0 := h N (by omega)
  go_enter Tryz.func48, Tryz.ntmps48
  go_wp2
  go_ret
  exact ⟨ret_int (by simpa using h0), Below.refl _ _⟩
set_option maxHeartbeats 800000 in
theorem c_candidate (N k : Nat) (hN : N ≤ 5) (h1 : 1 ≤ N) (hk : k < N * 2 ^ N) (w : World) :
    Ans Tryz.prog 54 #[.int .i64 N, .int .i64 k] w (.agg #[.int .i64 (candF N k).1, .int .i64 (candF N k).2]) := by
  unfold Ans
  obtain ⟨hlt, hst, hco, _, _⟩ := cand_ok hN h1 hk
  have hk160 := count_le hN
  have hpl := partsF_len N
  have hp0 : 0 < (partsF N).length := Nat.lt_of_le_of_lt (Nat.zero_le _) hlt
  obtain ⟨x, hx⟩ : ∃ x, x = (candF N k).1 := ⟨_, rfl⟩
  obtain ⟨r, hr⟩ : ∃ r, r = (candF N k).2 := ⟨_, rfl⟩
  rw [← hx, ← hr]
  obtain ⟨q, hq⟩ : ∃ q, q = k / N := ⟨_, rfl⟩
  have hx2 : x = nth (partsF N) q := by rw [hx, hq]; rfl
  have hr2 : r = (k : Int) % (N : Int) := by rw [hr]; show ((k % N : Nat) : Int) = _; exact Int.natCast_emod k N
  have hn0 : 0 < N := by omega
  have e1 : (k : Int).tdiv (N : Int) = (q : Int) := by rw [Int.tdiv_eq_ediv_of_nonneg (by omega), hq]; exact (Int.natCast_ediv k N).symm
  have e2 : (k : Int).tmod (N : Int) = r := by rw [Int.tmod_eq_emod_of_nonneg (by omega), hr2]
  have e3 : (k : Int) / (N : Int) = (q : Int) := by rw [hq]; exact (Int.natCast_ediv k N).symm
  rw [← hq] at hlt
  have hq160 : q ≤ 32 := by omega
  have hr1 : 0 ≤ r ∧ r < 5 := by rw [hr]; exact ⟨hco.1, hco.2⟩
  have hr5 := hr1.1
  have hr6 := hr1.2
  have HR2 : Hid (r = (k : Int) % (N : Int)) := hr2
  have HX2 : Hid (nth (partsF N) q = x) := hx2.symm
  have e4 : (k : Int) % (N : Int) = r := hr2.symm
  have e5 : IntKind.i64.wrap (q : Int) = (q : Int) := IntWalk.i64_in _ (by omega)
  have e6 : IntKind.i64.wrap r = r := IntWalk.i64_in _ (by omega)
  have e7 : ((N : Int) == 0) = false := by simp; omega
  have e8 : ¬ N = 0 := by omega
  clear hx hr hx2 hr2 hst hco hr1 hq
  have hb := (Below.refl w.heap.size w).alloc (Nat.le_refl _) (.cells #[.int .i64 0, .int .i64 0] 38)
  have kR := Blk.new w #[.int .i64 0, .int .i64 0] 38
  go_enter Tryz.func54, Tryz.ntmps54
  go_wp2_with fail
  go_region_with ((refine (c_PartsBySize (N : Int) _).mono ?_; rintro e w1 ⟨v, rfl, hP, hbn⟩; obtain ⟨o1, c1, rfl⟩ := hP.shape; obtain ⟨b2, off2, rfl, hbs2, hca⟩ := (hP.ints rfl (by unfold Room; omega)).at_ hp0; have hc2 := hca _ hlt; rw [HX2.out] at hc2; have kR1 := kR.drew.keep hbn; have r0 := kR1.cell 0 (.int .i64 0) rfl; have r1 := kR1.cell 1 (.int .i64 0) rfl; have q0 := kR1.free 0; have q1 := kR1.free 1; clear hca kR1))
  have hb1 := bel_to hb.drew hbn
  clear hbn hP hb kR
  go_wp2
  exact bodyPost_ret (v := .agg #[.int .i64 x, .int .i64 r]) (by simp [results, Tryz.results54, go_sem, r0, r1]) rfl ⟨rfl, Below.setCell (p := (⟨w.heap.size, 1, none⟩ : Addr)) (Below.setCell (p := (⟨w.heap.size, 0, none⟩ : Addr)) hb1 (Nat.le_refl _) _) (Nat.le_refl _) _⟩
set_option maxHeartbeats 800000 in
theorem c_l8Dep (N k : Nat) (hN : N ≤ 5) (h1 : 1 ≤ N) (hk : k < N * 2 ^ N) (w : World) :
    Ans Tryz.prog 55 #[.int .i64 N, .int .i64 k] w (.agg #[.int .i64 (candF N k).1, .int .i64 (candF N k).2]) := by
  unfold Ans
  obtain ⟨hlt, hst, hco, _, _⟩ := cand_ok hN h1 hk
  have hk160 := count_le hN
  have hpl := partsF_len N
  have hp0 : 0 < (partsF N).length := Nat.lt_of_le_of_lt (Nat.zero_le _) hlt
  obtain ⟨x, hx⟩ : ∃ x, x = (candF N k).1 := ⟨_, rfl⟩
  obtain ⟨r, hr⟩ : ∃ r, r = (candF N k).2 := ⟨_, rfl⟩
  rw [← hx, ← hr]
  obtain ⟨q, hq⟩ : ∃ q, q = k / N := ⟨_, rfl⟩
  have hx2 : x = nth (partsF N) q := by rw [hx, hq]; rfl
  have hr2 : r = (k : Int) % (N : Int) := by rw [hr]; show ((k % N : Nat) : Int) = _; exact Int.natCast_emod k N
  have hn0 : 0 < N := by omega
  have e1 : (k : Int).tdiv (N : Int) = (q : Int) := by rw [Int.tdiv_eq_ediv_of_nonneg (by omega), hq]; exact (Int.natCast_ediv k N).symm
  have e2 : (k : Int).tmod (N : Int) = r := by rw [Int.tmod_eq_emod_of_nonneg (by omega), hr2]
  have e3 : (k : Int) / (N : Int) = (q : Int) := by rw [hq]; exact (Int.natCast_ediv k N).symm
  rw [← hq] at hlt
  have hq160 : q ≤ 32 := by omega
  have hr1 : 0 ≤ r ∧ r < 5 := by rw [hr]; exact ⟨hco.1, hco.2⟩
  have hr5 := hr1.1
  have hr6 := hr1.2
  have HR2 : Hid (r = (k : Int) % (N : Int)) := hr2
  have HX2 : Hid (nth (partsF N) q = x) := hx2.symm
  have e4 : (k : Int) % (N : Int) = r := hr2.symm
  have e5 : IntKind.i64.wrap (q : Int) = (q : Int) := IntWalk.i64_in _ (by omega)
  have e6 : IntKind.i64.wrap r = r := IntWalk.i64_in _ (by omega)
  have e7 : ((N : Int) == 0) = false := by simp; omega
  have e8 : ¬ N = 0 := by omega
  clear hx hr hx2 hr2 hst hco hr1 hq
  have hb := (Below.refl w.heap.size w).alloc (Nat.le_refl _) (.cells #[.int .i64 0, .int .i64 0] 38)
  have kR := Blk.new w #[.int .i64 0, .int .i64 0] 38
  go_enter Tryz.func55, Tryz.ntmps55
  go_wp2_with fail
  refine (c_specPartsBySize (N : Int) _).mono ?_
  rintro e w1 ⟨v, rfl, hP, hbn⟩
  obtain ⟨o1, c1, rfl⟩ := hP.shape
  obtain ⟨b2, off2, rfl, hbs2, hca⟩ := (hP.ints rfl (by unfold Room; omega)).at_ hp0
  have hc2 := hca _ hlt
  rw [HX2.out] at hc2
  have kR1 := kR.keep hbn
  have r0 := kR1.cell 0 (.int .i64 0) rfl
  have r1 := kR1.cell 1 (.int .i64 0) rfl
  have q0 := kR1.free 0
  have q1 := kR1.free 1
  have hb1 := bel_to hb hbn
  clear hca kR1 hbn hP hb kR
  go_wp2_with fail
  go_region_with (fail)
  go_wp2
  exact bodyPost_ret (v := .agg #[.int .i64 x, .int .i64 r]) (by simp [results, Tryz.results55, go_sem, r0, r1]) rfl ⟨rfl, Below.setCell (p := (⟨w.heap.size, 1, none⟩ : Addr)) (Below.setCell (p := (⟨w.heap.size, 0, none⟩ : Addr)) hb1.drew (Nat.le_refl _) _) (Nat.le_refl _) _⟩
end Go.Proofs.YtcenndlbhgfdfaaGreat
namespace Go.Proofs.YtcenndlbhgfdfaaGreat
open Go.RowKit
set_option linter.unusedVariables false
set_option maxRecDepth 100000

def set6 (w : World) (k : Nat) (b0 b1 b2 b3 b4 b5 : Value) : World := (((((w.setCell ⟨k, 0, none⟩ b0).setCell ⟨k, 1, none⟩ b1).setCell ⟨k, 2, none⟩ b2).setCell ⟨k, 3, none⟩ b3).setCell ⟨k, 4, none⟩ b4).setCell ⟨k, 5, none⟩ b5
theorem OwnD.set_ne {w : World} {B g : Nat} {v : Value} {D : List (Int × Int)} (h : OwnD w B v D) (j : Nat) (u : Value) (hg : v.ownBlock ≠ some g) : OwnD (w.setCell ⟨g, j, none⟩ u) B v D := ownsRow_setCell_other h (a := ⟨g, j, none⟩) hg u
theorem OwnD.set6 {w : World} {B k : Nat} {v : Value} {D : List (Int × Int)} (h : OwnD w B v D) (hk : v.ownBlock ≠ some k) (b0 b1 b2 b3 b4 b5 : Value) : OwnD (set6 w k b0 b1 b2 b3 b4 b5) B v D :=
  (((((h.set_ne 0 b0 hk).set_ne 1 b1 hk).set_ne 2 b2 hk).set_ne 3 b3 hk).set_ne 4 b4 hk).set_ne 5 b5 hk
theorem bel_set6 {w0 w : World} {B : Nat} (h : Below B w0 w) {k : Nat} (hk : B ≤ k) (b0 b1 b2 b3 b4 b5 : Value) : Below B w0 (set6 w k b0 b1 b2 b3 b4 b5) :=
  Below.setCell (p := ⟨k, 5, none⟩) (Below.setCell (p := ⟨k, 4, none⟩) (Below.setCell (p := ⟨k, 3, none⟩) (Below.setCell (p := ⟨k, 2, none⟩) (Below.setCell (p := ⟨k, 1, none⟩) (Below.setCell (p := ⟨k, 0, none⟩) h hk b0) hk b1) hk b2) hk b3) hk b4) hk b5
theorem OwnD.nilcap {w : World} {B n c : Nat} {oa : Option Addr} {D : List (Int × Int)} (h : OwnD w B (.slice oa n c) D) : oa = none → c = 0 := by
  intro e
  subst e
  rcases h.2 with ⟨hv, _⟩ | ⟨g, c', cur, hv, _⟩
  · cases hv; rfl
  · cases hv
theorem OwnD.not_new {w : World} {B : Nat} {v : Value} {D : List (Int × Int)} (h : OwnD w B v D) {g : Nat} (hg : w.heap.size ≤ g) : v.ownBlock ≠ some g := fun e => by
  have := (World.ownsRow.lt h g e).2
  omega
theorem Fresh.self (w : World) (v : Value) : Fresh w v v := .inl rfl
theorem covS_take {F : List (Int × Int)} {x r : Int} {j : Nat} (hj : j < F.length) : covS (F.take (j + 1)) x r = (covS (F.take j) x r || ((nr F j == r) && ins (nl F j) x)) := by
  unfold covS
  rw [List.take_add_one, dnth_eq hj, List.any_append]; simp
theorem covS_at {F : List (Int × Int)} {x r : Int} {j : Nat} (hj : j < F.length) (h : ((nr F j == r) && ins (nl F j) x) = true) : covS F x r = true := List.any_eq_true.2 ⟨(nl F j, nr F j), List.mem_iff_getElem?.2 ⟨j, dnth_eq hj⟩, h⟩
theorem ask_cand {N k : Nat} {R : List (List Int)} {m : Int} (ht : isTabF N R = true) (hm : modeF m = true) (hk : k < N * 2 ^ N) : askF N R m (candF N k).1 (candF N k).2 = true := by
  obtain ⟨h1, h5, _, _⟩ := isTab_of ht
  obtain ⟨_, c1, c2, c3, c4⟩ := cand_ok (by omega) (by omega) hk
  unfold askF isDepF isAttr
  rw [ht, hm]
  simp only [Bool.and_self, Bool.true_and, Bool.and_eq_true, decide_eq_true_eq, Int.toNat_natCast]
  exact ⟨⟨⟨h1, ⟨⟨⟨by omega, h5⟩, c1.1⟩, c3⟩⟩, c2.1⟩, c4⟩
theorem Blk.grown {a b : World} {g : Nat} {c : Array Value} {T : TypeId} {row : Option Nat} (h : Blk a g c T) (hg : a.grownBy b row) (hne : some g ≠ row) : Blk b g c T := (hg.block g h.lt hne).trans h
theorem lit_keep {w w' : World} {n : Nat} {c : Array Value} {T : TypeId} (h : Below n (w.alloc (.cells c T)) w') (hn : n = w.heap.size + 1) : w'.heap[w.heap.size]? = some (.cells c T (0, 0)) := (h.block w.heap.size (by omega)).trans (heap_alloc_new w _)
theorem lit_keep_drew {w w' : World} {n : Nat} {c : Array Value} {T : TypeId} (h : Below n (w.alloc (.cells c T)).drew w') (hn : n = w.heap.size + 1) : w'.heap[w.heap.size]? = some (.cells c T (0, 0)) := (h.block w.heap.size (by omega)).trans (heap_alloc_new w _)
theorem own_snocD' {w : World} {base : Nat} {v : Value} {A : List (Int × Int)} {l r : Int} (h : w.ownsRow base 38 2 v (A.length + 1) (dcells A ++ [.int .i64 l, .int .i64 r])) : OwnD w base v (A ++ [(l, r)]) := OwnD.joined (B := [(l, r)]) h
theorem snoc_shape {w : World} {base : Nat} {v : Value} {A : List (Int × Int)} {d : Int × Int} (h : OwnD w base v (A ++ [d])) : ∃ o c, v = .slice o (A.length + 1) c := by
  obtain ⟨o, c, e⟩ := h.shape
  exact ⟨o, c, by rw [e]; simp⟩
set_option maxHeartbeats 3200000 in
theorem c_step (N k : Nat) (oa fo) (cap fc : Nat) (R : List (List Int)) (m t : Int) (F : List (Int × Int)) (B : Nat) (w : World) (hR : RowsAt w oa R) (ht : isTabF N R = true) (hm : modeF m = true) (hk : k < N * 2 ^ N)
    (hF : OwnD w B (.slice fo F.length fc) F) (hB : B ≤ w.heap.size) (hFl : F.length ≤ 160) (ht0 : 0 ≤ t) (ht1 : t ≤ 160) :
    Calls Tryz.prog 45 #[.agg #[.int .i64 N, .slice oa R.length cap, .int .i64 m, .int .i64 k, .slice fo F.length fc, .int .i64 t]] w fun e w' => ∃ fo' fc', e = .returned (.agg #[.int .i64 N, .slice oa R.length cap, .int .i64 m, .int .i64 ((k : Int) + 1), .slice fo' (stepF R m N k (F, t)).1.length fc', .int .i64 (stepF R m N k (F, t)).2]) ∧ OwnD w' B (.slice fo' (stepF R m N k (F, t)).1.length fc') (stepF R m N k (F, t)).1 ∧ Fresh w (.slice fo F.length fc) (.slice fo' (stepF R m N k (F, t)).1.length fc') ∧ Below w.heap.size w w' := by
  obtain ⟨i0, hi, hz0, hz1, hz2⟩ := info_parts info_dep
  obtain ⟨hn1, hn5, _, _⟩ := isTab_of ht
  have hN5 : N ≤ 5 := by omega
  have hN1 : 1 ≤ N := by omega
  have hk160 := count_le hN5
  obtain ⟨_, hst, hco, _, _⟩ := cand_ok hN5 hN1 hk
  have hask := ask_cand (R := R) (m := m) ht hm hk
  have HZ : Hid (stepF R m N k (F, t) = if hasc (candF N k).1 (candF N k).2 || covS F (candF N k).1 (candF N k).2 then (F, t) else (if holdsF R m (candF N k).1 (candF N k).2 then F ++ [((candF N k).1, (candF N k).2)] else F, t + 1)) := rfl
  have HCD : Hid (∀ w', Ans Tryz.prog 54 #[.int .i64 N, .int .i64 k] w' (.agg #[.int .i64 (candF N k).1, .int .i64 (candF N k).2])) := fun w' => c_candidate N k hN5 hN1 hk w'
  generalize hz : stepF R m N k (F, t) = z at *
  clear hz
  generalize (candF N k).1 = x at *
  generalize (candF N k).2 = r at *
  have hr64 : 0 ≤ r ∧ r < 64 := ⟨hco.1, by have := hco.2; omega⟩
  have hR0 := hR
  have hFn : (Value.slice fo F.length fc).ownBlock ≠ some w.heap.size ∧ (Value.slice fo F.length fc).ownBlock ≠ some (w.heap.size + 1) := ⟨hF.not_new (Nat.le_refl _), hF.not_new (Nat.le_succ _)⟩
  have HNC : Hid (fo = none → fc = 0) := hF.nilcap
  have HST : Hid (St x ∧ Co r) := ⟨hst, hco⟩
  have hb := bel2 w (.cells #[.int .i64 N, .slice oa R.length cap, .int .i64 m, .int .i64 k, .slice fo F.length fc, .int .i64 t] 29) (.cells srZ 29)
  have kS := (Blk.new w #[.int .i64 N, .slice oa R.length cap, .int .i64 m, .int .i64 k, .slice fo F.length fc, .int .i64 t] 29).alloc (.cells srZ 29)
  have kZ := Blk.new (w.alloc (.cells #[.int .i64 N, .slice oa R.length cap, .int .i64 m, .int .i64 k, .slice fo F.length fc, .int .i64 t] 29)) srZ 29
  simp only [World.size_alloc] at kZ
  have hF0 := hF.keep hb
  unfold srZ at hb kS kZ hF0
  have s0 := kS.cell 0 (.int .i64 N) rfl
  have s3 := kS.cell 3 (.int .i64 k) rfl
  clear hst hco ht hm hF
  go_enter Tryz.func45, Tryz.ntmps45
  go_wp2_with fail
  refine Calls.mono (HCD.out _) ?_
  rintro e w1 ⟨rfl, hbn⟩
  replace kS := kS.keep hbn
  replace kZ := kZ.keep hbn
  replace hF := hF0.keep hbn
  replace hb := bel_to hb hbn
  have hs1 : w.heap.size + 1 < w1.heap.size := kZ.lt
  clear hbn s0 s3 hF0
  have s3 := kS.cell 3 (.int .i64 k) rfl
  have kS1 := kS.alloc (.cells #[.int .i64 x, .int .i64 r] 38)
  have kZ1 := kZ.alloc (.cells #[.int .i64 x, .int .i64 r] 38)
  have kD1 := Blk.new w1 #[.int .i64 x, .int .i64 r] 38
  have hb1 := hb.alloc hb.size (.cells #[.int .i64 x, .int .i64 r] 38)
  have hF1 := hF.keep ((Below.refl w1.heap.size w1).alloc (Nat.le_refl _) (.cells #[.int .i64 x, .int .i64 r] 38))
  have hFd : (Value.slice fo F.length fc).ownBlock ≠ some w1.heap.size := hF.not_new (Nat.le_refl _)
  have s3' := kS1.cell 3 (.int .i64 k) rfl
  have f3' := kS1.free 3
  have kS2 : Blk _ w.heap.size #[.int .i64 N, .slice oa R.length cap, .int .i64 m, .int .i64 ((k : Int) + 1), .slice fo F.length fc, .int .i64 t] 29 := kS1.set 3 (.int .i64 ((k : Int) + 1))
  have kZ2 := kZ1.far ⟨w.heap.size, 3, none⟩ (.int .i64 ((k : Int) + 1)) (by simp)
  have kD2 := kD1.far ⟨w.heap.size, 3, none⟩ (.int .i64 ((k : Int) + 1)) (by simp; omega)
  have hb2 := Below.setCell (p := (⟨w.heap.size, 3, none⟩ : Addr)) hb1 (Nat.le_refl _) (.int .i64 ((k : Int) + 1))
  have hF2 := hF1.set_ne 3 (.int .i64 ((k : Int) + 1)) hFn.1
  have d0 := kD2.cell 0 (.int .i64 x) rfl
  have d1 := kD2.cell 1 (.int .i64 r) rfl
  have hs2 : w1.heap.size < ((w1.alloc (.cells #[.int .i64 x, .int .i64 r] 38)).setCell ⟨w.heap.size, 3, none⟩ (.int .i64 ((k : Int) + 1))).heap.size := by simp
  clear kS kZ hb kS1 kZ1 kD1 hb1 hF hF1
  go_wp2_with fail
  cases h1 : hasc x r
  · refine Calls.mono (Ans.eqb (c_has _ _ hr64 _) h1) ?_
    rintro e w3 ⟨rfl, hbn⟩
    replace kS2 := kS2.keep hbn
    replace kZ2 := kZ2.keep hbn
    replace kD2 := kD2.keep hbn
    replace hF2 := hF2.keep hbn
    replace hb2 := bel_to hb2 hbn
    clear hbn d0 d1 s3 s3' f3'
    have s4 := kS2.cell 4 (.slice fo F.length fc) rfl
    generalize hd9 : w1.heap.size = d at *
    have hsd : w.heap.size + 1 < d := hs1
    clear hd9 hs2 hs1
    have hFr : F.length ≤ Room := by unfold Room; omega
    go_wp2
    go_loopw [25] (fun i wr => ∃ j : Nat, i = .int .i64 j ∧ j ≤ F.length ∧ covS (F.take j) x r = false ∧ Blk wr w.heap.size #[.int .i64 N, .slice oa R.length cap, .int .i64 m, .int .i64 ((k : Int) + 1), .slice fo F.length fc, .int .i64 t] 29 ∧ Blk wr (w.heap.size + 1) srZ 29 ∧ Blk wr d #[.int .i64 x, .int .i64 r] 38 ∧ OwnD wr B (.slice fo F.length fc) F ∧ Below w.heap.size w wr) (fun i _ => F.length - (intOf i).toNat)
    case atStart => exact ⟨0, rfl, Nat.zero_le _, rfl, kS2, kZ2, kD2, hF2, hb2⟩
    case round =>
      clear kS2 kZ2 kD2 hF2 hb2 s4
      obtain ⟨j, rfl, hj, hcov, kS, kZ, kD, hF, hb⟩ := hrel
      have HC : Hid (covS (F.take j) x r = false) := hcov
      clear hcov
      by_cases hlt : j < F.length
      · obtain ⟨b, off, rfl, hbs, hc⟩ := (hF.deps rfl hFr).at_ (by omega)
        have hc1 := (hc j hlt).1
        have hc2 := (hc j hlt).2
        have HT : Hid (covS (F.take (j + 1)) x r = (covS (F.take j) x r || ((nr F j == r) && ins (nl F j) x))) := covS_take hlt
        have HA : Hid (((nr F j == r) && ins (nl F j) x) = true → covS F x r = true) := covS_at hlt
        clear hc
        generalize nl F j = a at *
        generalize nr F j = q at *
        have hba := (Below.refl wr.heap.size wr).alloc (Nat.le_refl _) (.cells #[.int .i64 a, .int .i64 q] 38)
        replace kS := kS.keep hba
        replace kZ := kZ.keep hba
        replace kD := kD.keep hba
        replace hF := hF.keep hba
        replace hb := bel_to hb hba
        have g0 := box_at wr #[.int .i64 a, .int .i64 q] 38 0 _ rfl
        have g1 := box_at wr #[.int .i64 a, .int .i64 q] 38 1 _ rfl
        have d0 := kD.cell 0 (.int .i64 x) rfl
        have d1 := kD.cell 1 (.int .i64 r) rfl
        clear hba
        cases hq : (q == r)
        · go_wp2
          go_roundw
          case rel => exact ⟨j + 1, by go_num, by omega, by rw [HT.out, HC.out, hq]; rfl, kS, kZ, kD, hF, hb⟩
          case measure => simp [intOf]; omega
        · cases hi3 : ins a x
          · go_wp2_with fail
            refine Calls.mono (Ans.eqb (c_inside _ _ _) hi3) ?_
            rintro e w4 ⟨rfl, hbn⟩
            replace kS := kS.keep hbn
            replace kZ := kZ.keep hbn
            replace kD := kD.keep hbn
            replace hF := hF.keep hbn
            replace hb := bel_to hb hbn
            clear hbn g0 g1 d0 d1
            go_wp2
            go_roundw
            case rel => exact ⟨j + 1, by go_num, by omega, by rw [HT.out, HC.out, hq, hi3]; rfl, kS, kZ, kD, hF, hb⟩
            case measure => simp [intOf]; omega
          · have HV : Hid (z = (F, t)) := by show z = (F, t); rw [HZ.out, h1, HA.out (by rw [hq, hi3]; rfl)]; rfl
            go_wp2_with fail
            refine Calls.mono (Ans.eqb (c_inside _ _ _) hi3) ?_
            rintro e w4 ⟨rfl, hbn⟩
            replace kS := kS.keep hbn
            replace kZ := kZ.keep hbn
            replace hF := hF.keep hbn
            replace hb := bel_to hb hbn
            clear hbn g0 g1 d0 d1 kD
            have s0 := kS.cell 0 (.int .i64 N) rfl
            have s1 := kS.cell 1 (.slice oa R.length cap) rfl
            have s2 := kS.cell 2 (.int .i64 m) rfl
            have s3 := kS.cell 3 (.int .i64 ((k : Int) + 1)) rfl
            have s4 := kS.cell 4 (.slice (some ⟨b, off, none⟩) F.length fc) rfl
            have s5 := kS.cell 5 (.int .i64 t) rfl
            have z0 := kZ.cell 0 (.int .i64 0) rfl
            have z1 := kZ.cell 1 (.slice none 0 0) rfl
            have z2 := kZ.cell 2 (.int .i64 0) rfl
            have z3 := kZ.cell 3 (.int .i64 0) rfl
            have z4 := kZ.cell 4 (.slice none 0 0) rfl
            have z5 := kZ.cell 5 (.int .i64 0) rfl
            have f0 := kZ.free 0
            have f1 := kZ.free 1
            have f2 := kZ.free 2
            have f3 := kZ.free 3
            have f4 := kZ.free 4
            have f5 := kZ.free 5
            go_wp2
            refine bodyPost_ret (v := .agg #[.int .i64 N, .slice oa R.length cap, .int .i64 m, .int .i64 ((k : Int) + 1), .slice (some ⟨b, off, none⟩) F.length fc, .int .i64 t]) (by simp [results, Tryz.results45, go_sem, z0, z1, z2, z3, z4, z5]) rfl ?_
            rw [HV.out]
            exact ⟨_, fc, rfl, OwnD.set6 hF hFn.2 _ _ _ _ _ _, Fresh.self _ _, bel_set6 hb (Nat.le_succ _) _ _ _ _ _ _⟩
      · have hjj : j = F.length := by omega
        have HCF : Hid (covS F x r = false) := by have h := HC.out; rw [hjj, List.take_length] at h; exact h
        clear hjj
        have s5 := kS.cell 5 (.int .i64 t) rfl
        have f5 := kS.free 5
        have kS2 : Blk _ w.heap.size #[.int .i64 N, .slice oa R.length cap, .int .i64 m, .int .i64 ((k : Int) + 1), .slice fo F.length fc, .int .i64 (t + 1)] 29 := kS.set 5 (.int .i64 (t + 1))
        have kZ2 := kZ.far ⟨w.heap.size, 5, none⟩ (.int .i64 (t + 1)) (by simp)
        have kD2 := kD.far ⟨w.heap.size, 5, none⟩ (.int .i64 (t + 1)) (by simp; omega)
        have hb2 := Below.setCell (p := (⟨w.heap.size, 5, none⟩ : Addr)) hb (Nat.le_refl _) (.int .i64 (t + 1))
        have hF2 := hF.set_ne 5 (.int .i64 (t + 1)) hFn.1
        have s0 := kS2.cell 0 (.int .i64 N) rfl
        have s1 := kS2.cell 1 (.slice oa R.length cap) rfl
        have s2 := kS2.cell 2 (.int .i64 m) rfl
        have d0 := kD2.cell 0 (.int .i64 x) rfl
        have d1 := kD2.cell 1 (.int .i64 r) rfl
        clear kS kZ kD hb hF
        go_wp2_with fail
        cases h2 : holdsF R m x r
        · have HV : Hid (z = (F, t + 1)) := by show z = (F, t + 1); rw [HZ.out, h1, HCF.out, h2]; rfl
          refine Calls.mono (Ans.eqb (b' := false) (c_HoldsDep N oa cap R m x r _ (hR0.keep hb2)) (by rw [h2]; simp)) ?_
          rintro e w5 ⟨rfl, hbn⟩
          replace kS2 := kS2.keep hbn
          replace kZ2 := kZ2.keep hbn
          replace hF2 := hF2.keep hbn
          replace hb2 := bel_to hb2 hbn
          clear hbn d0 d1 s0 s1 s2 s5 f5 kD2
          have s0 := kS2.cell 0 (.int .i64 N) rfl
          have s1 := kS2.cell 1 (.slice oa R.length cap) rfl
          have s2 := kS2.cell 2 (.int .i64 m) rfl
          have s3 := kS2.cell 3 (.int .i64 ((k : Int) + 1)) rfl
          have s4 := kS2.cell 4 (.slice fo F.length fc) rfl
          have s5 := kS2.cell 5 (.int .i64 (t + 1)) rfl
          have z0 := kZ2.cell 0 (.int .i64 0) rfl
          have z1 := kZ2.cell 1 (.slice none 0 0) rfl
          have z2 := kZ2.cell 2 (.int .i64 0) rfl
          have z3 := kZ2.cell 3 (.int .i64 0) rfl
          have z4 := kZ2.cell 4 (.slice none 0 0) rfl
          have z5 := kZ2.cell 5 (.int .i64 0) rfl
          have f0 := kZ2.free 0
          have f1 := kZ2.free 1
          have f2 := kZ2.free 2
          have f3 := kZ2.free 3
          have f4 := kZ2.free 4
          have f5 := kZ2.free 5
          go_wp2
          refine bodyPost_ret (v := .agg #[.int .i64 N, .slice oa R.length cap, .int .i64 m, .int .i64 ((k : Int) + 1), .slice fo F.length fc, .int .i64 (t + 1)]) (by simp [results, Tryz.results45, go_sem, z0, z1, z2, z3, z4, z5]) rfl ?_
          rw [HV.out]
          exact ⟨fo, fc, rfl, OwnD.set6 hF2 hFn.2 _ _ _ _ _ _, Fresh.self _ _, bel_set6 hb2 (Nat.le_succ _) _ _ _ _ _ _⟩
        · have HV : Hid (z = (F ++ [(x, r)], t + 1)) := by show z = _; rw [HZ.out, h1, HCF.out, h2]; rfl
          refine Calls.mono (Ans.eqb (b' := true) (c_HoldsDep N oa cap R m x r _ (hR0.keep hb2)) (by rw [h2, hask]; rfl)) ?_
          rintro e w5 ⟨rfl, hbn⟩
          replace kS2 := kS2.keep hbn
          replace kZ2 := kZ2.keep hbn
          replace kD2 := kD2.keep hbn
          replace hF2 := hF2.keep hbn
          replace hb2 := bel_to hb2 hbn
          clear hbn d0 d1 s0 s1 s2 s5 f5
          have s4 := kS2.cell 4 (.slice fo F.length fc) rfl
          have f4 := kS2.free 4
          have d0 := kD2.cell 0 (.int .i64 x) rfl
          have d1 := kD2.cell 1 (.int .i64 r) rfl
          have s4b : (w5.alloc (.cells #[.int .i64 x, .int .i64 r] 38)).drew.cell? ⟨w.heap.size, 4, none⟩ = some (.slice fo F.length fc) := (kS2.alloc _).cell 4 _ rfl
          have hbase : B ≤ w5.heap.size := Nat.le_trans hB hb2.size
          have h63 : F.length + 1 ≤ maxLen := by unfold maxLen; omega
          have h64 : (F.length + 1) * 16 ≤ 140737488355328 := by omega
          go_wp2_with fail
          go_region_law (first
            | (go_simp; refine (c_copyDeps fo fc F _ ((hF2.keep (by first | exact (Below.refl _ _).drew | exact (Below.refl _ _).drew.alloc (Nat.le_refl _) _)).deps rfl hFr) HNC.out).mono ?_; rintro e w6 ⟨v6, rfl, hO, hbn⟩; have hb56 := bel_to (w := w5) (by first | exact (Below.refl _ _).drew | exact (Below.refl _ _).drew.alloc (Nat.le_refl _) _) hbn; replace hO := hO.based (show w5.heap.size ≤ _ by simp); have kS6 := kS2.keep hb56; have kZ6 := kZ2.keep hb56; have kD6 := kD2.keep hb56; have hb6 := bel_to hb2 hb56; have d0 := kD6.cell 0 (.int .i64 x) rfl; have d1 := kD6.cell 1 (.int .i64 r) rfl)
            | (refine step_append_own _ (by rfl) _ _ 27 (by rfl) w5.heap.size 38 i0 (.agg #[.int .i64 0, .int .i64 0]) 2 16 Tryz.underlying27 hi hz0 hz1 hz2 rfl (by decide) v6 _ _ (by rfl) (World.ownsRow.alloc hO _) _ 1 1 [.int .i64 x, .int .i64 r] (by rfl) rfl (World.news_of_block (cs := #[.int .i64 x, .int .i64 r]) (t := 38) (fr := (0, 0)) (heap_alloc_new _ _)) (by intro u hu; simp at hu; rcases hu with rfl | rfl <;> rfl) (show _ from h63) (show _ from h64) (by have := hb56.size; simp; omega) ?_; intro v7 w7 hown hgrow; have hne9 := fun (g : Nat) (hg : g < w5.heap.size) => (show some g ≠ v6.ownBlock from fun e => by have := (World.ownsRow.lt hO g e.symm).1; omega); have kS7 := (kS6.alloc _).grown hgrow (hne9 _ kS2.lt); have kZ7 := (kZ6.alloc _).grown hgrow (hne9 _ kZ2.lt); have hb7 := (hb6.alloc hb6.size _).grown hgrow (by have := hb6.size; simp; omega) (fun g hg => Nat.le_trans hb2.size (World.ownsRow.lt hO g hg).1); have hO7 := own_snocD' hown; clear hown hgrow; obtain ⟨o7, c7, rfl⟩ := snoc_shape hO7; have s4 := kS7.cell 4 (.slice fo F.length fc) rfl; have f4 := kS7.free 4)
            | (refine step_append_own _ (by rfl) _ _ 27 (by rfl) w5.heap.size 38 i0 (.agg #[.int .i64 0, .int .i64 0]) 2 16 Tryz.underlying27 hi hz0 hz1 hz2 rfl (by decide) v6 _ _ (by rfl) hO _ 1 1 [.int .i64 x, .int .i64 r] (by rfl) rfl (World.news_of_block (cs := #[.int .i64 x, .int .i64 r]) (t := 38) (fr := (0, 0)) (lit_keep_drew hbn (by simp))) (by intro u hu; simp at hu; rcases hu with rfl | rfl <;> rfl) (show _ from h63) (show _ from h64) hb56.size ?_; intro v7 w7 hown hgrow; have hne9 := fun (g : Nat) (hg : g < w5.heap.size) => (show some g ≠ v6.ownBlock from fun e => by have := (World.ownsRow.lt hO g e.symm).1; omega); have kS7 := (kS6).grown hgrow (hne9 _ kS2.lt); have kZ7 := (kZ6).grown hgrow (hne9 _ kZ2.lt); have hb7 := (hb6).grown hgrow (by have := hb6.size; simp; omega) (fun g hg => Nat.le_trans hb2.size (World.ownsRow.lt hO g hg).1); have hO7 := own_snocD' hown; clear hown hgrow; obtain ⟨o7, c7, rfl⟩ := snoc_shape hO7; have s4 := kS7.cell 4 (.slice fo F.length fc) rfl; have f4 := kS7.free 4)
            | fail)
          all_goals
            have kS8 : Blk _ w.heap.size #[.int .i64 N, .slice oa R.length cap, .int .i64 m, .int .i64 ((k : Int) + 1), .slice o7 (F.length + 1) c7, .int .i64 (t + 1)] 29 := kS7.set 4 (.slice o7 (F.length + 1) c7)
            have kZ8 := kZ7.far ⟨w.heap.size, 4, none⟩ (.slice o7 (F.length + 1) c7) (by simp)
            have hb8 := Below.setCell (p := (⟨w.heap.size, 4, none⟩ : Addr)) hb7 (Nat.le_refl _) (.slice o7 (F.length + 1) c7)
            have hn7 : ∀ g, g < w5.heap.size → (Value.slice o7 (F.length + 1) c7).ownBlock ≠ some g := fun g hg e => by have := (World.ownsRow.lt hO7 g e).1; omega
            have hs5 := kS2.lt
            have hz5 := kZ2.lt
            have hO8 := hO7.set_ne 4 (.slice o7 (F.length + 1) c7) (hn7 _ hs5)
            have s0 := kS8.cell 0 (.int .i64 N) rfl
            have s1 := kS8.cell 1 (.slice oa R.length cap) rfl
            have s2 := kS8.cell 2 (.int .i64 m) rfl
            have s3 := kS8.cell 3 (.int .i64 ((k : Int) + 1)) rfl
            have s4 := kS8.cell 4 (.slice o7 (F.length + 1) c7) rfl
            have s5 := kS8.cell 5 (.int .i64 (t + 1)) rfl
            have z0 := kZ8.cell 0 (.int .i64 0) rfl
            have z1 := kZ8.cell 1 (.slice none 0 0) rfl
            have z2 := kZ8.cell 2 (.int .i64 0) rfl
            have z3 := kZ8.cell 3 (.int .i64 0) rfl
            have z4 := kZ8.cell 4 (.slice none 0 0) rfl
            have z5 := kZ8.cell 5 (.int .i64 0) rfl
            have f0 := kZ8.free 0
            have f1 := kZ8.free 1
            have f2 := kZ8.free 2
            have f3 := kZ8.free 3
            have f4 := kZ8.free 4
            have f5 := kZ8.free 5
            go_wp2
            refine bodyPost_ret (v := .agg #[.int .i64 N, .slice oa R.length cap, .int .i64 m, .int .i64 ((k : Int) + 1), .slice o7 (F.length + 1) c7, .int .i64 (t + 1)]) (by simp [results, Tryz.results45, go_sem, z0, z1, z2, z3, z4, z5]) rfl ?_
            rw [HV.out]
            have hl9 : (F ++ [(x, r)]).length = F.length + 1 := by simp
            refine ⟨o7, c7, ?_, ?_, ?_, bel_set6 hb8 (Nat.le_succ _) _ _ _ _ _ _⟩
            · show Ending.returned _ = Ending.returned (.agg #[.int .i64 N, .slice oa R.length cap, .int .i64 m, .int .i64 ((k : Int) + 1), .slice o7 (F ++ [(x, r)]).length c7, .int .i64 (t + 1)])
              rw [hl9]
            · show OwnD _ B (.slice o7 (F ++ [(x, r)]).length c7) (F ++ [(x, r)])
              rw [hl9]
              exact OwnD.set6 (hO8.based hbase) (hn7 _ hz5) _ _ _ _ _ _
            · show Fresh w _ (.slice o7 (F ++ [(x, r)]).length c7)
              rw [hl9]
              exact .inr (fun g hg => Nat.le_trans hb2.size (World.ownsRow.lt hO7 g hg).1)
  · refine Calls.mono (Ans.eqb (c_has _ _ hr64 _) h1) ?_
    rintro e w3 ⟨rfl, hbn⟩
    replace kS2 := kS2.keep hbn
    replace kZ2 := kZ2.keep hbn
    replace hF2 := hF2.keep hbn
    replace hb2 := bel_to hb2 hbn
    have HV : Hid (z = (F, t)) := by show z = (F, t); rw [HZ.out, h1]; rfl
    clear hbn d0 d1 s3 s3' f3' kD2
    have s0 := kS2.cell 0 (.int .i64 N) rfl
    have s1 := kS2.cell 1 (.slice oa R.length cap) rfl
    have s2 := kS2.cell 2 (.int .i64 m) rfl
    have s3 := kS2.cell 3 (.int .i64 ((k : Int) + 1)) rfl
    have s4 := kS2.cell 4 (.slice fo F.length fc) rfl
    have s5 := kS2.cell 5 (.int .i64 t) rfl
    have z0 := kZ2.cell 0 (.int .i64 0) rfl
    have z1 := kZ2.cell 1 (.slice none 0 0) rfl
    have z2 := kZ2.cell 2 (.int .i64 0) rfl
    have z3 := kZ2.cell 3 (.int .i64 0) rfl
    have z4 := kZ2.cell 4 (.slice none 0 0) rfl
    have z5 := kZ2.cell 5 (.int .i64 0) rfl
    have f0 := kZ2.free 0
    have f1 := kZ2.free 1
    have f2 := kZ2.free 2
    have f3 := kZ2.free 3
    have f4 := kZ2.free 4
    have f5 := kZ2.free 5
    go_wp2
    refine bodyPost_ret (v := .agg #[.int .i64 N, .slice oa R.length cap, .int .i64 m, .int .i64 ((k : Int) + 1), .slice fo F.length fc, .int .i64 t]) (by simp [results, Tryz.results45, go_sem, z0, z1, z2, z3, z4, z5]) rfl ?_
    rw [HV.out]
    exact ⟨fo, fc, rfl, OwnD.set6 hF2 hFn.2 _ _ _ _ _ _, Fresh.self _ _, bel_set6 hb2 (Nat.le_succ _) _ _ _ _ _ _⟩
end Go.Proofs.YtcenndlbhgfdfaaGreat
namespace Go.Proofs.YtcenndlbhgfdfaaGreat
open Go.RowKit
set_option linter.unusedVariables false
set_option maxRecDepth 100000

/-- Rows, each of which is nil without capacity, if it is nil. -/
def RowsC (w : World) (oa : Option Addr) (R : List (List Int)) : Prop := RowsAt w oa R ∧ ∀ (b off : Nat), oa = some ⟨b, off, none⟩ → ∀ k, k < R.length → ∀ o n c, w.cell? ⟨b, off + k, none⟩ = some (.slice o n c) → o = none → c = 0
theorem RowsC.keep {w w' : World} {oa : Option Addr} {R : List (List Int)} (h : RowsC w oa R) (hb : Below w.heap.size w w') : RowsC w' oa R :=
  ⟨h.1.keep hb, fun b off e k hk o n c hc => by
    obtain ⟨b', off', e', hlt, _⟩ := h.1.at_ (by omega)
    rw [e] at e'
    simp only [Option.some.injEq, Addr.mk.injEq, and_true] at e'
    obtain ⟨rfl, rfl⟩ := e'
    exact h.2 b off e k hk o n c (by rw [← hb.cell (p := ⟨b, off + k, none⟩) hlt]; exact hc)⟩
theorem OwnI.nilcap {w : World} {B n c : Nat} {oa : Option Addr} {L : List Int} (h : OwnI w B (.slice oa n c) L) : oa = none → c = 0 := by
  intro e
  subst e
  rcases h.2 with ⟨hv, _⟩ | ⟨g, c', cur, hv, _⟩
  · cases hv; rfl
  · cases hv
theorem OwnRows.readC {w : World} {B : Nat} {oa : Option Addr} {n c : Nat} {xs : List Value} {R : List (List Int)} (h : OwnRows w B (.slice oa n c) xs R) (hR : R.length ≤ Room) (hr : ∀ j, j < R.length → (row R j).length ≤ Room) : RowsC w oa R := by
  refine ⟨h.read hR hr, fun b off e k hk o n' c' hc ho => ?_⟩
  obtain ⟨g, e', _, hlt, hcell⟩ := h.at_ (by omega)
  rw [e'] at e
  simp only [Option.some.injEq, Addr.mk.injEq, and_true] at e
  obtain ⟨rfl, rfl⟩ := e
  obtain ⟨o2, c2, q1, q2, _⟩ := h.rows k hk
  have := hcell k hk
  rw [Nat.zero_add] at hc
  rw [hc, q1] at this
  simp only [Option.some.injEq, Value.slice.injEq] at this
  obtain ⟨rfl, _, rfl⟩ := this
  exact q2.nilcap ho
theorem take_row {R : List (List Int)} {k : Nat} (h : k < R.length) : R.take (k + 1) = R.take k ++ [row R k] := by rw [List.take_add_one, row_eq h]; rfl
set_option maxHeartbeats 800000 in
theorem c_copyRows (oa) (ca : Nat) (R : List (List Int)) (w : World) (hR : RowsC w oa R) :
    Calls Tryz.prog 96 #[.slice oa R.length ca] w fun e w' => ∃ o c xs, e = .returned (.slice o R.length c) ∧ OwnRows w' w.heap.size (.slice o R.length c) xs R ∧ Below w.heap.size w w' := by
  obtain ⟨j0, hj, hy0, hy1, hy2⟩ := info_parts info_ints
  have hn : R.length ≤ 1073741824 := hR.1.len
  have hb := (Below.refl w.heap.size w).alloc (Nat.le_refl _) (.cells #[] 50)
  have hC := OwnRows.empty w w.heap.size (Nat.le_refl _)
  have HR : Hid (RowsC w oa R) := hR
  clear hR
  go_enter Tryz.func96, Tryz.ntmps96
  go_wp2
  go_loopw [3, 9] (fun v i wr => ∃ (k : Nat) (xs : List Value), i = .int .i64 k ∧ k ≤ R.length ∧ OwnRows wr w.heap.size v xs (R.take k) ∧ Below w.heap.size w wr) (fun _ i _ => R.length - (intOf i).toNat)
  case atStart => exact ⟨0, [], rfl, Nat.zero_le _, by simpa using hC, hb⟩
  case round =>
    clear hC hb
    obtain ⟨k, xs, rfl, hk, hC, hb⟩ := hrel
    by_cases hlt : k < R.length
    · obtain ⟨b, off, rfl, hbs, hc⟩ := HR.out.1.at_ (by omega)
      obtain ⟨o, c, h1, r1⟩ := hc k hlt
      have hnil := HR.out.2 b off rfl k hlt o _ c h1
      have HT : Hid (R.take (k + 1) = R.take k ++ [row R k]) := take_row hlt
      have hc1 := cell_keep h1 hb
      have hxl := hC.len
      rw [List.length_take] at hxl
      have hxs : xs.length ≤ R.length := by omega
      clear hxl hc h1
      generalize row R k = L at *
      generalize R.take k = P at *
      go_wp2_with (first | (go_at_call 116; refine (c_copyInts _ _ _ _ (r1.keep hb) hnil).mono ?_; rintro e w1 ⟨v1, rfl, hI, hbn⟩; have ap := hC.fresh hI; replace hC := hC.keep hbn; replace hI := hI.based hb.size; replace hb := bel_to hb hbn; obtain ⟨o1, c1, rfl⟩ := hI.shape; clear hbn) | (at_builtin; refine wpList_append_fresh rfl _ _ 24 rfl w.heap.size 50 j0 (.slice none 0 0) 1 24 Tryz.underlying24 hj hy0 hy1 hy2 rfl (by decide) _ _ _ rfl (World.ownsRow.alloc hC.outer _) _ 1 1 [.slice o1 L.length c1] rfl rfl (by intro j u hj; match j, hj with | 0, hj => simp at hj; subst hj; simp [Addr.add]) (by intro u hu; simp at hu; subst hu; rfl) (by unfold maxLen; omega) (by omega) (by have := hb.size; simp; omega) ?_; intro v' w2 hown hgrow hfr; replace hb := (hb.alloc hb.size _).grown hgrow (by have := hb.size; simp; omega) (fun g hg => (World.ownsRow.lt hC.outer g hg).1); have hC2 := OwnRows.snoc hC hI ap hown hgrow hfr; clear hown hgrow hfr) | fail)
      go_roundw
      case rel => exact ⟨k + 1, _, by go_num, by omega, by rw [HT.out]; exact hC2, hb⟩
      case measure => simp [intOf]; omega
    · have hkk : k = R.length := by omega
      have HE : Hid (R.take k = R) := by show R.take k = R; rw [hkk, List.take_length]
      clear hkk
      rw [HE.out] at hC
      obtain ⟨o, c, rfl⟩ := hC.shape
      go_wp2
      go_ret
      exact ⟨_, _, _, rfl, hC, hb⟩
set_option maxHeartbeats 800000 in
theorem c_copyTable (n : Int) (oa) (ca : Nat) (R : List (List Int)) (w : World) (hR : RowsC w oa R) :
    Calls Tryz.prog 62 #[.agg #[.int .i64 n, .slice oa R.length ca]] w fun e w' => ∃ o c xs, e = .returned (.agg #[.int .i64 n, .slice o R.length c]) ∧ OwnRows w' w.heap.size (.slice o R.length c) xs R ∧ Below w.heap.size w w' := by
  have hb := bel2 w (.cells #[.int .i64 n, .slice oa R.length ca] 26) (.cells #[.int .i64 0, .slice none 0 0] 26)
  have a0 := two_a w #[.int .i64 n, .slice oa R.length ca] 26 #[.int .i64 0, .slice none 0 0] 26 0 _ rfl
  have a1 := two_a w #[.int .i64 n, .slice oa R.length ca] 26 #[.int .i64 0, .slice none 0 0] 26 1 _ rfl
  have kA := (Blk.new w #[.int .i64 n, .slice oa R.length ca] 26).alloc (.cells #[.int .i64 0, .slice none 0 0] 26)
  have kZ := Blk.new (w.alloc (.cells #[.int .i64 n, .slice oa R.length ca] 26)) #[.int .i64 0, .slice none 0 0] 26
  simp only [World.size_alloc] at kZ
  go_enter Tryz.func62, Tryz.ntmps62
  go_wp2_with fail
  go_region_with ((refine (c_copyRows oa ca R _ (hR.keep hb.drew)).mono ?_; rintro e w1 ⟨o, c, xs, rfl, hN, hbn⟩; have kA1 := kA.drew.keep hbn; have kZ1 := kZ.drew.keep hbn; have a0' := kA1.cell 0 (.int .i64 n) rfl; have z0 := kZ1.cell 0 (.int .i64 0) rfl; have z1 := kZ1.cell 1 (.slice none 0 0) rfl; have f0 := kZ1.free 0; have f1 := kZ1.free 1; have hb1 := bel_to hb.drew hbn; clear hbn))
  all_goals
    go_wp2
    have x1 := (hN.far_set (g := w.heap.size + 1) 0 (.int .i64 n) (by simp)).far_set (g := w.heap.size + 1) 1 (.slice o R.length c) (by simp)
    exact bodyPost_ret (v := .agg #[.int .i64 n, .slice o R.length c]) (by simp [results, Tryz.results62, go_sem, z0, z1]) rfl ⟨o, c, xs, rfl, x1.based (by simp; omega), Below.setCell (p := (⟨w.heap.size + 1, 1, none⟩ : Addr)) (Below.setCell (p := (⟨w.heap.size + 1, 0, none⟩ : Addr)) hb1 (Nat.le_succ _) _) (Nat.le_succ _) _⟩
end Go.Proofs.YtcenndlbhgfdfaaGreat
namespace Go.Proofs.YtcenndlbhgfdfaaGreat
open Go.RowKit
set_option linter.unusedVariables false
set_option maxRecDepth 100000

theorem bel_set2 {w0 w : World} {B : Nat} (h : Below B w0 w) {k : Nat} (hk : B ≤ k) (b0 b1 : Value) : Below B w0 ((w.setCell ⟨k, 0, none⟩ b0).setCell ⟨k, 1, none⟩ b1) :=
  Below.setCell (p := ⟨k, 1, none⟩) (Below.setCell (p := ⟨k, 0, none⟩) h hk b0) hk b1
theorem apart_lit {v : Value} {g n c : Nat} (h : v.ownBlock ≠ some g) : Apart (.slice (some ⟨g, 0, none⟩) n c) v := Or.inr fun e => h e.symm
theorem Blk.world {w : World} {g : Nat} {c : Array Value} {T : TypeId} (h : Blk w g c T) : ∃ w', w' = w := ⟨w, rfl⟩
theorem drew_grown {w w' : World} {row : Option Nat} (h : w.drew.grownBy w' row) : w.grownBy w' row := ⟨h.os, h.tape, h.output, h.size, h.block⟩
theorem drew_fresh {w : World} {v v' : Value} (h : Fresh w.drew v v') : Fresh w v v' := h
def OldR (S : Nat) (v : Value) (xs : List Value) : Prop := ∀ y, y = v ∨ y ∈ xs → ∀ g, y.ownBlock = some g → g < S
theorem OwnRows.old {w : World} {B S : Nat} {v : Value} {xs : List Value} {R : List (List Int)} (h : OwnRows w B v xs R) (hS : w.heap.size ≤ S) : OldR S v xs := by
  intro y hy g hg
  rcases hy with rfl | hy
  · exact Nat.lt_of_lt_of_le (World.ownsRow.lt h.outer g hg).2 hS
  · obtain ⟨j, _, o, c, e, h2, _⟩ := h.one hy
    exact Nat.lt_of_lt_of_le (World.ownsRow.lt h2 g hg).2 hS
theorem OwnRows.lowS {w : World} {B S : Nat} {v : Value} {xs : List Value} {R : List (List Int)} (h : OwnRows w B v xs R) (hS : S ≤ B) : ∀ y ∈ xs, ∀ g, y.ownBlock = some g → S ≤ g := by
  intro y hy g hg
  obtain ⟨j, _, o, c, e, h2, _⟩ := h.one hy
  exact Nat.le_trans hS (World.ownsRow.lt h2 g hg).1
theorem OwnRows.many {w w' : World} {B S : Nat} {v : Value} {xs vs : List Value} {R : List (List Int)} (h : OwnRows w B v xs R) (hg : GrownMany w w' vs) (hl : ∀ y ∈ vs, ∀ g, y.ownBlock = some g → S ≤ g) (ho : OldR S v xs) : OwnRows w' B v xs R := by
  have hap : ∀ u, u = v ∨ u ∈ xs → ∀ y ∈ vs, Apart u y := by
    intro u hu y hy
    cases e : u.ownBlock with
    | none => exact .inl e
    | some g => exact .inr fun e' => by have := ho u hu g e; have := hl y hy g (by rw [← e', e]); omega
  refine ⟨h.len, owns_many h.outer hg (hap v (.inl rfl)), fun j hj => ?_, h.pair⟩
  obtain ⟨o, c, h1, h2, h3⟩ := h.rows j hj
  exact ⟨o, c, h1, h2.many hg (hap _ (.inr (List.mem_iff_getElem?.2 ⟨j, h1⟩))), h3⟩
theorem OwnRows.after {w w' : World} {B size n : Nat} {e : TypeId} {u v : Value} {ys xs : List Value} {R : List (List Int)} (h : OwnRows w' w.heap.size v xs R) (h' : w.ownsRow B e size u n ys) : ApartR v xs u :=
  ⟨(apart_old h' h.outer).symm, fun y hy => by obtain ⟨j, _, o, c, e, h2, _⟩ := h.one hy; exact (apart_old h' h2).symm⟩
theorem Blk.many {w w' : World} {k : Nat} {c : Array Value} {T : TypeId} {vs : List Value} (h : Blk w k c T) (hg : GrownMany w w' vs) (hn : ∀ y ∈ vs, y.ownBlock ≠ some k) : Blk w' k c T := (hg.block k h.lt hn).trans h
theorem OwnRows.readSeq {w : World} {B c : Nat} {oa : Option Addr} {xs : List Value} {R : List (List Int)} {k : Int} (h : OwnRows w B (.slice oa R.length c) xs (seqR k R)) (hR : R.length ≤ Room) (hr : ∀ j, j < R.length → (row R j).length ≤ Room) : RowsAt w oa (seqR k R) :=
  h.read (by rw [seqR_length]; exact hR) (fun j hj => by rw [seqR_length] at hj; rw [seqR_row hj, seqI_length]; exact hr j hj)
theorem OwnRows.baseLe {w : World} {B S : Nat} {v : Value} {xs : List Value} {R : List (List Int)} (_ : OwnRows w B v xs R) (h : S ≤ B) : S ≤ B := h
theorem sum_le {R : List (List Int)} {m : Nat} (h : ∀ j, j < R.length → (row R j).length ≤ m) : ∀ k, k ≤ R.length → sumL R k ≤ m * k
  | 0, _ => by simp [sumL]
  | k + 1, hk => by
    rw [sumL_succ (by omega), Nat.mul_succ]
    have := sum_le h k (by omega)
    have := h k (by omega)
    omega
/-- Neither the list nor a row of it lies in block k. -/
def Avoid (k : Nat) (v : Value) (xs : List Value) : Prop := ∀ y, y = v ∨ y ∈ xs → y.ownBlock ≠ some k
theorem set_apart {w : World} {B size n k j : Nat} {e : TypeId} {y u : Value} {ys : List Value} (h : w.ownsRow B e size y n ys) (hk : y.ownBlock ≠ some k) : (w.setCell ⟨k, j, none⟩ u).ownsRow B e size y n ys :=
  World.ownsRow.kept h (grown_set w k j _) (.inr hk)
theorem ownRows_setAvoid {w : World} {B k : Nat} {v : Value} {xs : List Value} {R : List (List Int)} (h : OwnRows w B v xs R) (ha : Avoid k v xs) (j : Nat) (u : Value) : OwnRows (w.setCell ⟨k, j, none⟩ u) B v xs R :=
  ⟨h.len, set_apart h.outer (ha v (.inl rfl)), fun t ht => by
    obtain ⟨o, c, h1, h2, h3⟩ := h.rows t ht
    exact ⟨o, c, h1, set_apart h2 (ha _ (.inr (List.mem_iff_getElem?.2 ⟨t, h1⟩))), h3⟩, h.pair⟩
/-- 't.Rows = append(t.Rows, r)' for a table that the call made. -/
theorem tab_snoc {w w5 w7 : World} {B k6 c c5 nC : Nat} {hd v' : Value} {T T2 : TypeId} {o o5 : Option Addr} {xs : List Value} {P : List (List Int)} {C : List Int} (hnC : C.length = nC)
    (hO : OwnRows w5 B (.slice o P.length c) xs P) (hC : OwnI w5 B (.slice o5 nC c5) C) (hap : ApartR (.slice o P.length c) xs (.slice o5 nC c5))
    (kb : Blk w5 k6 #[hd, .slice o P.length c] T) (av : Avoid k6 (.slice o P.length c) xs) (avC : (Value.slice o5 nC c5).ownBlock ≠ some k6) (hb : Below w.heap.size w w5) (hB : w.heap.size ≤ B) (hk6 : w.heap.size ≤ k6)
    (hown : w7.ownsRow B 50 1 v' (xs.length + 1) (xs ++ [.slice o5 nC c5])) (hgrow : (w5.alloc (.cells #[.slice o5 nC c5] T2)).grownBy w7 (Value.slice o P.length c).ownBlock) (hfr : Fresh (w5.alloc (.cells #[.slice o5 nC c5] T2)) (.slice o P.length c) v') :
    (∃ o' c', v' = .slice o' (P.length + 1) c') ∧ w7.cell? ⟨k6, 1, none⟩ = some (.slice o P.length c) ∧ w7.frozen? ⟨k6, 1, none⟩ = false ∧ Blk (w7.setCell ⟨k6, 1, none⟩ v') k6 #[hd, v'] T ∧
    OwnRows (w7.setCell ⟨k6, 1, none⟩ v') B v' (xs ++ [.slice o5 nC c5]) (P ++ [C]) ∧ Avoid k6 v' (xs ++ [.slice o5 nC c5]) ∧ Below w.heap.size w (w7.setCell ⟨k6, 1, none⟩ v') ∧
    (∀ (B' : Nat) (e : TypeId) (size : Nat) (u : Value) (n : Nat) (ys : List Value), w5.ownsRow B' e size u n ys → Apart u (.slice o P.length c) → u.ownBlock ≠ some k6 → (w7.setCell ⟨k6, 1, none⟩ v').ownsRow B' e size u n ys ∧ Apart u v') ∧
    (∀ (g : Nat) (cs : Array Value) (T' : TypeId), Blk w5 g cs T' → g ≠ k6 → (Value.slice o P.length c).ownBlock ≠ some g → Blk (w7.setCell ⟨k6, 1, none⟩ v') g cs T') := by
  subst hnC
  have hO2 := OwnRows.snoc hO hC hap hown hgrow hfr
  have hsh : ∃ o' c', v' = .slice o' (P.length + 1) c' := by
    obtain ⟨o', c', e⟩ := hO2.shape
    exact ⟨o', c', by rw [e]; simp⟩
  have hv : v'.ownBlock ≠ some k6 := by
    rcases hfr with h | h
    · rw [h]; exact av _ (.inl rfl)
    · intro e
      have h1 := h k6 e
      have h2 := kb.lt
      simp at h1; omega
  have av2 : Avoid k6 v' (xs ++ [.slice o5 C.length c5]) := by
    intro y hy
    rcases hy with rfl | hy
    · exact hv
    · rcases List.mem_append.1 hy with hy | hy
      · exact av y (.inr hy)
      · rw [List.mem_singleton] at hy; subst hy; exact avC
  have k7 : Blk w7 k6 #[hd, .slice o P.length c] T := (kb.alloc _).grown hgrow (fun e => av _ (.inl rfl) e.symm)
  have hb7 : Below w.heap.size w w7 := (hb.alloc hb.size _).grown hgrow (by have := hb.size; simp; omega) (fun g hg => Nat.le_trans hB (World.ownsRow.lt hO.outer g hg).1)
  refine ⟨hsh, k7.cell 1 _ rfl, k7.free 1, k7.set 1 v', ownRows_setAvoid hO2 av2 1 v', av2, Below.setCell (p := (⟨k6, 1, none⟩ : Addr)) hb7 hk6 v', ?_, ?_⟩
  · intro B' e size u n ys h ha hk
    have h1 := World.ownsRow.alloc h (.cells #[.slice o5 C.length c5] T2)
    exact ⟨set_apart (World.ownsRow.kept h1 hgrow ha) hk, Apart.next h1 ha hfr⟩
  · intro g cs T' h hg hne
    exact ((h.alloc _).grown hgrow (fun e => hne e.symm)).far ⟨k6, 1, none⟩ v' hg

theorem oldR_le {S S' : Nat} {v : Value} {xs : List Value} (h : OldR S v xs) (hS : S ≤ S') : OldR S' v xs := fun y hy g e => Nat.lt_of_lt_of_le (h y hy g e) hS
theorem apartR_none (v : Value) (xs : List Value) : ApartR v xs (.slice none 0 0) := ⟨Apart.symm (.inl rfl), fun y _ => Apart.symm (.inl rfl)⟩
theorem ownD_none (w : World) (base : Nat) : OwnD w base (.slice none 0 0) [] := ⟨rfl, Or.inl ⟨rfl, rfl⟩⟩
theorem Blk.keepTo {w w' : World} {g B : Nat} {c : Array Value} {T : TypeId} (h : Blk w g c T) (hg : g < B) (hb : Below B w w') : Blk w' g c T := (hb.block g hg).trans h
end Go.Proofs.YtcenndlbhgfdfaaGreat
namespace Go.Proofs.YtcenndlbhgfdfaaGreat
open Go.RowKit
set_option linter.unusedVariables false
set_option maxRecDepth 100000

theorem OwnI.cur {w w' : World} {B g : Nat} {v : Value} {L : List Int} (h : OwnI w B v L) (hg : w.grownBy w' (some g)) (hB : g < B) : OwnI w' B v L := owns_cur h hg hB
theorem OwnRows.cur {w w' : World} {B g : Nat} {v : Value} {xs : List Value} {R : List (List Int)} (h : OwnRows w B v xs R) (hg : w.grownBy w' (some g)) (hB : g < B) : OwnRows w' B v xs R :=
  ⟨h.len, owns_cur h.outer hg hB, fun j hj => by
    obtain ⟨o, c, h1, h2, h3⟩ := h.rows j hj
    exact ⟨o, c, h1, h2.cur hg hB, h3⟩, h.pair⟩
set_option maxHeartbeats 1600000 in
theorem c_l3RandomRow (g N : Nat) (hN : N ≤ 5) (wide : Int) (hw : wide ≤ 256) (w : World) (hc : Cur w g) :
    Calls Tryz.prog 114 #[.pointer (some ⟨g, 0, none⟩), .int .i64 N, .int .i64 wide] w fun e w' => ∃ o c L, e = .returned (.slice o (L.length : Nat) c) ∧ OwnI w' w.heap.size (.slice o L.length c) L ∧ L.length = N ∧ Cur w' g ∧ w.grownBy w' (some g) := by
  obtain ⟨i0, hi0, hz0, hz1, hz2⟩ := info_parts info_int
  have hlt := hc.lt
  have hI := OwnI.empty w w.heap.size (Nat.le_refl _)
  have hG := grown_of_below ((Below.refl w.heap.size w).alloc (Nat.le_refl _) (.cells #[] 3)) (some g)
  replace hc := cur_alloc hc (.cells #[] 3)
  go_enter Tryz.func114, Tryz.ntmps114
  go_wp2_with fail
  go_loopw [7, 8] (fun v i wr => ∃ (k : Nat) (L : List Int), i = .int .i64 k ∧ L.length = k ∧ k ≤ N ∧ OwnI wr w.heap.size v L ∧ Cur wr g ∧ w.grownBy wr (some g)) (fun _ i _ => N - (intOf i).toNat)
  case atStart => exact ⟨0, [], rfl, rfl, Nat.zero_le _, hI, hc, hG⟩
  case round =>
    clear hI hc hG
    obtain ⟨k, L, rfl, hLk, hk, hI, hc, hG⟩ := hrel
    have hi := hi0
    have HLK : Hid (L.length = k) := hLk
    have HL5 : L.length ≤ 5 := by omega
    clear hLk
    by_cases hlt0 : k < N
    · go_wp2_with fail
      refine (c_l1Below g wide hw _ hc).mono ?_
      rintro e w2 ⟨x, rfl, _, _, _, hc2, hg⟩
      replace hI := hI.cur hg hlt
      replace hG := grown_trans hG hg
      clear hc hg
      go_wp2_with fail
      refine (c_l1Once g 12 (by omega) _ hc2).mono ?_
      rintro e w3 ⟨t, rfl, hc3, hg⟩
      replace hI := hI.cur hg hlt
      replace hG := grown_trans hG hg
      clear hc2 hg
      cases t
      · go_wp2_with (first | (at_builtin; refine wpList_append_own _ rfl _ _ 50 rfl w.heap.size 3 i0 (.int .i64 0) 1 8 Tryz.underlying50 hi hz0 hz1 hz2 rfl (by decide) _ _ _ rfl (World.ownsRow.alloc hI _) _ 1 1 [.int .i64 (x)] rfl rfl (by intro j u hj; match j, hj with | 0, hj => simp at hj; subst hj; simp [Addr.add]) (by intro u hu; simp at hu; subst hu; rfl) (by unfold maxLen; omega) (by omega) (by have := hG.size; simp; omega) ?_; intro v' w9 hown hgrow _; have hc9 := Cur.grown (cur_alloc hc3 _) hgrow (fun k e => by have := (World.ownsRow.lt hI k e).1; omega); have hG9 := grown_more (grown_trans hG (grown_of_below ((Below.refl _ _).alloc (Nat.le_refl _) _) _)) hgrow (fun k e => (World.ownsRow.lt hI k e).1); replace hI := OwnI.snoc hown; clear hown hgrow hG hc3) | fail)
        go_roundw
        case rel => exact ⟨k + 1, L ++ [x], by go_num, by simp; exact HLK.out, by omega, hI, hc9, hG9⟩
        case measure => simp [intOf]; omega
      · go_wp2_with (first | (at_builtin; refine wpList_append_own _ rfl _ _ 50 rfl w.heap.size 3 i0 (.int .i64 0) 1 8 Tryz.underlying50 hi hz0 hz1 hz2 rfl (by decide) _ _ _ rfl (World.ownsRow.alloc hI _) _ 1 1 [.int .i64 (-1)] rfl rfl (by intro j u hj; match j, hj with | 0, hj => simp at hj; subst hj; simp [Addr.add]) (by intro u hu; simp at hu; subst hu; rfl) (by unfold maxLen; omega) (by omega) (by have := hG.size; simp; omega) ?_; intro v' w9 hown hgrow _; have hc9 := Cur.grown (cur_alloc hc3 _) hgrow (fun k e => by have := (World.ownsRow.lt hI k e).1; omega); have hG9 := grown_more (grown_trans hG (grown_of_below ((Below.refl _ _).alloc (Nat.le_refl _) _) _)) hgrow (fun k e => (World.ownsRow.lt hI k e).1); replace hI := OwnI.snoc hown; clear hown hgrow hG hc3) | fail)
        go_roundw
        case rel => exact ⟨k + 1, L ++ [-1], by go_num, by simp; exact HLK.out, by omega, hI, hc9, hG9⟩
        case measure => simp [intOf]; omega
    · have HK : Hid (L.length = N) := by show L.length = N; have := HLK.out; omega
      obtain ⟨o, c, rfl⟩ := hI.shape
      go_wp2
      go_ret
      exact ⟨o, c, L, rfl, hI, HK.out, hc, hG⟩
end Go.Proofs.YtcenndlbhgfdfaaGreat
