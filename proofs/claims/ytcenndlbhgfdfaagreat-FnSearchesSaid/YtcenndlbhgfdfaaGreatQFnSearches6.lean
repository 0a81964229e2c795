/- Contracts and lemmas for FnSearches, part 6 of 8. -/
import Derived.Test.YtcenndlbhgfdfaaGreatQFnSearches1
import Derived.Test.YtcenndlbhgfdfaaGreatQFnSearches2
import Derived.Test.YtcenndlbhgfdfaaGreatQFnSearches3
import Derived.Test.YtcenndlbhgfdfaaGreatQFnSearches4
import Derived.Test.YtcenndlbhgfdfaaGreatQFnSearches5
import Derived.Deep.CutRange
import Derived.Deep.RegionLaw
import Derived.Deep.RegionHeld3
namespace Go.Proofs.YtcenndlbhgfdfaaGreat
open Go.RowKit
set_option linter.unusedVariables false
set_option maxRecDepth 100000

def zeroS : Array Value := #[.int .i64 0, .slice none 0 0, .int .i64 0, .int .i64 0, .slice none 0 0, .int .i64 0]
/-- A search of small size: at most K found. -/
def Sm (K : Nat) (A : Sr) : Prop := A.R.length ≤ 12 ∧ (∀ j, j < A.R.length → (row A.R j).length ≤ 5) ∧ A.F.length ≤ K ∧ 0 ≤ A.t ∧ A.t ≤ K
theorem ns_sm {n m : Int} {R : List (List Int)} (h1 : R.length ≤ 12) (h2 : ∀ j, j < R.length → (row R j).length ≤ 5) : Sm 160 (nsF n R m) := by
  unfold nsF
  split
  · exact ⟨h1, h2, Nat.zero_le _, Int.le_refl _, Int.natCast_nonneg _⟩
  · exact ⟨Nat.zero_le _, fun j hj => absurd hj (Nat.not_lt_zero _), Nat.zero_le _, Int.le_refl _, Int.natCast_nonneg _⟩
theorem run_sm {A : Sr} {b : Int} (h : Sm 160 A) : Sm 160 (runSr A b) := by
  unfold runSr
  split
  · next hh =>
    obtain ⟨N, K, e1, e2, h1, h5, hK, ht, hm, hrep⟩ := isSr_of hh
    have hle : stopF A b ≤ N * 2 ^ N := by
      unfold stopF
      rw [e1, e2, Int.toNat_natCast, Int.toNat_natCast]
      exact (stopAt_le _ _ hK).1
    have e : A.n.toNat = N := by omega
    rw [e]
    obtain ⟨_, i2, i3, i4⟩ := rep_ok (R := A.R) (m := A.m) h5 h1 _ hle
    have := count_le h5
    exact ⟨h.1, h.2.1, Nat.le_trans i2 (by omega), i3, Int.le_trans i4 (by omega)⟩
  · exact h
theorem Sm.up {K : Nat} {A : Sr} (h : Sm K A) : Sm (K + 1) A := ⟨h.1, h.2.1, Nat.le_succ_of_le h.2.2.1, h.2.2.2.1, by have := h.2.2.2.2; omega⟩
/-- The search A lies in block k of w, made since w0 behind the block w0.heap.size of the result, and g is a cursor. -/
structure SrAt (w0 w : World) (g k : Nat) (A : Sr) (o : Option Addr) (c : Nat) (fo : Option Addr) (fc : Nat) (xs : List Value) : Prop where
  kS : Blk w k #[.int .i64 A.n, .slice o A.R.length c, .int .i64 A.m, .int .i64 A.a, .slice fo A.F.length fc, .int .i64 A.t] 29
  kZ : Blk w w0.heap.size #[.int .i64 0, .slice none 0 0, .int .i64 0, .int .i64 0, .slice none 0 0, .int .i64 0] 29
  hO : OwnRows w (w0.heap.size + 1) (.slice o A.R.length c) xs A.R
  hF : OwnD w (w0.heap.size + 1) (.slice fo A.F.length fc) A.F
  ap : ApartR (.slice o A.R.length c) xs (.slice fo A.F.length fc)
  nO : Avoid k (.slice o A.R.length c) xs
  nF : (Value.slice fo A.F.length fc).ownBlock ≠ some k
  hk : w0.heap.size < k
  hc : Cur w g
  hG : w0.grownBy w (some g)
  hg : g < w0.heap.size
theorem SrAt.cur {w0 w w' : World} {g k : Nat} {A : Sr} {o c fo fc xs} (h : SrAt w0 w g k A o c fo fc xs) (hg : w.grownBy w' (some g)) (hc : Cur w' g) : SrAt w0 w' g k A o c fo fc xs :=
  ⟨h.kS.cur hg (by have := h.hk; have := h.hg; omega), h.kZ.cur hg (by have := h.hg; omega), h.hO.cur hg (by have := h.hg; omega), h.hF.cur hg (by have := h.hg; omega), h.ap, h.nO, h.nF, h.hk, hc, grown_trans h.hG hg, h.hg⟩
theorem SrAt.keep {w0 w w' : World} {g k : Nat} {A : Sr} {o c fo fc xs} (h : SrAt w0 w g k A o c fo fc xs) (hb : Below w.heap.size w w') : SrAt w0 w' g k A o c fo fc xs :=
  ⟨h.kS.keep hb, h.kZ.keep hb, h.hO.keep hb, h.hF.keep hb, h.ap, h.nO, h.nF, h.hk, h.hc.keep hb, grown_trans h.hG (grown_of_below hb _), h.hg⟩
/-- A search is written into the box k. -/
theorem srat_put {w0 w : World} {g k : Nat} {A : Sr} {o : Option Addr} {c : Nat} {fo : Option Addr} {fc : Nat} {xs : List Value} {x0 x1 x2 x3 x4 x5 : Value}
    (kS : Blk w k #[x0, x1, x2, x3, x4, x5] 29) (kZ : Blk w w0.heap.size #[.int .i64 0, .slice none 0 0, .int .i64 0, .int .i64 0, .slice none 0 0, .int .i64 0] 29)
    (hO : OwnRows w (w0.heap.size + 1) (.slice o A.R.length c) xs A.R) (hF : OwnD w (w0.heap.size + 1) (.slice fo A.F.length fc) A.F) (ap : ApartR (.slice o A.R.length c) xs (.slice fo A.F.length fc))
    (nO : Avoid k (.slice o A.R.length c) xs) (nF : (Value.slice fo A.F.length fc).ownBlock ≠ some k) (hk : w0.heap.size < k) (hc : Cur w g) (hG : w0.grownBy w (some g)) (hg : g < w0.heap.size) (W' : World)
    (hW : W' = set6 w k (.int .i64 A.n) (.slice o A.R.length c) (.int .i64 A.m) (.int .i64 A.a) (.slice fo A.F.length fc) (.int .i64 A.t)) : SrAt w0 W' g k A o c fo fc xs := by
  subst hW
  have hgk : g < k := by omega
  exact ⟨kS.set6 _ _ _ _ _ _, kZ.far6 (by omega) _ _ _ _ _ _, ownRows_set6 hO nO _ _ _ _ _ _, hF.set6 nF _ _ _ _ _ _, ap, nO, nF, hk,
    (((((hc.set hgk).set hgk).set hgk).set hgk).set hgk).set hgk, grown_new (grown_new (grown_new (grown_new (grown_new (grown_new hG (by omega)) (by omega)) (by omega)) (by omega)) (by omega)) (by omega), hg⟩
/-- A search is made in a new box. -/
theorem srat_new {w0 w : World} {g : Nat} {A : Sr} {o : Option Addr} {c : Nat} {fo : Option Addr} {fc : Nat} {xs : List Value}
    (kZ : Blk w w0.heap.size #[.int .i64 0, .slice none 0 0, .int .i64 0, .int .i64 0, .slice none 0 0, .int .i64 0] 29)
    (hO : OwnRows w (w0.heap.size + 1) (.slice o A.R.length c) xs A.R) (hF : OwnD w (w0.heap.size + 1) (.slice fo A.F.length fc) A.F) (ap : ApartR (.slice o A.R.length c) xs (.slice fo A.F.length fc))
    (hc : Cur w g) (hG : w0.grownBy w (some g)) (hg : g < w0.heap.size) (W' : World)
    (hW : W' = w.alloc (.cells #[.int .i64 A.n, .slice o A.R.length c, .int .i64 A.m, .int .i64 A.a, .slice fo A.F.length fc, .int .i64 A.t] 29)) : SrAt w0 W' g w.heap.size A o c fo fc xs := by
  subst hW
  have hba := (Below.refl w.heap.size w).alloc (Nat.le_refl _) (.cells #[.int .i64 A.n, .slice o A.R.length c, .int .i64 A.m, .int .i64 A.a, .slice fo A.F.length fc, .int .i64 A.t] 29)
  have old := hO.old (Nat.le_refl _)
  exact ⟨Blk.new w _ _, kZ.keep hba, hO.keep hba, hF.keep hba, ap, fun y hy e => by have := old y hy _ e; omega, hF.not_new (Nat.le_refl _), kZ.lt, hc.keep hba, grown_trans hG (grown_of_below hba _), hg⟩
/-- The search is handed back. -/
theorem SrAt.out {w0 w : World} {g k : Nat} {A : Sr} {o c fo fc xs} (h : SrAt w0 w g k A o c fo fc xs) (W' : World)
    (hW : W' = set6 w w0.heap.size (.int .i64 A.n) (.slice o A.R.length c) (.int .i64 A.m) (.int .i64 A.a) (.slice fo A.F.length fc) (.int .i64 A.t)) :
    Blk W' w0.heap.size #[.int .i64 A.n, .slice o A.R.length c, .int .i64 A.m, .int .i64 A.a, .slice fo A.F.length fc, .int .i64 A.t] 29 ∧ OwnRows W' w0.heap.size (.slice o A.R.length c) xs A.R ∧ OwnD W' w0.heap.size (.slice fo A.F.length fc) A.F ∧ Cur W' g ∧ w0.grownBy W' (some g) := by
  subst hW
  have hgk := h.hg
  exact ⟨h.kZ.set6 _ _ _ _ _ _, (h.hO.far6 (Nat.lt_succ_self _) _ _ _ _ _ _).based (Nat.le_succ _), (h.hF.set6 (fun e => by have := (World.ownsRow.lt h.hF _ e).1; omega) _ _ _ _ _ _).based (Nat.le_succ _),
    (((((h.hc.set hgk).set hgk).set hgk).set hgk).set hgk).set hgk, grown_new (grown_new (grown_new (grown_new (grown_new (grown_new h.hG (Nat.le_refl _)) (Nat.le_refl _)) (Nat.le_refl _)) (Nat.le_refl _)) (Nat.le_refl _)) (Nat.le_refl _)⟩
/-- One cell of the box is written. -/
theorem SrAt.setA {w0 w : World} {g k : Nat} {A : Sr} {o c fo fc xs} (h : SrAt w0 w g k A o c fo fc xs) (a : Int) : SrAt w0 (w.setCell ⟨k, 3, none⟩ (.int .i64 a)) g k ⟨A.n, A.R, A.m, a, A.F, A.t⟩ o c fo fc xs := by
  have hgk : g < k := by have := h.hk; have := h.hg; omega
  exact ⟨h.kS.set 3 (.int .i64 a), h.kZ.far ⟨k, 3, none⟩ _ (by have := h.hk; show w0.heap.size ≠ k; omega), ownRows_setAvoid h.hO h.nO 3 _, h.hF.set_ne 3 _ h.nF, h.ap, h.nO, h.nF, h.hk, h.hc.set hgk, grown_new h.hG (Nat.le_of_lt h.hk), h.hg⟩
theorem SrAt.setT {w0 w : World} {g k : Nat} {A : Sr} {o c fo fc xs} (h : SrAt w0 w g k A o c fo fc xs) (t : Int) : SrAt w0 (w.setCell ⟨k, 5, none⟩ (.int .i64 t)) g k ⟨A.n, A.R, A.m, A.a, A.F, t⟩ o c fo fc xs := by
  have hgk : g < k := by have := h.hk; have := h.hg; omega
  exact ⟨h.kS.set 5 (.int .i64 t), h.kZ.far ⟨k, 5, none⟩ _ (by have := h.hk; show w0.heap.size ≠ k; omega), ownRows_setAvoid h.hO h.nO 5 _, h.hF.set_ne 5 _ h.nF, h.ap, h.nO, h.nF, h.hk, h.hc.set hgk, grown_new h.hG (Nat.le_of_lt h.hk), h.hg⟩
/-- A dependency is appended to what was found. -/
theorem SrAt.app {w0 w w7 : World} {g k : Nat} {A : Sr} {o c fo fc xs} (h : SrAt w0 w g k A o c fo fc xs) {d : Int × Int} {v' : Value} {T : TypeId}
    (hown : w7.ownsRow (w0.heap.size + 1) 38 2 v' (A.F.length + 1) (dcells A.F ++ [.int .i64 d.1, .int .i64 d.2])) (hgrow : (w.alloc (.cells #[.int .i64 d.1, .int .i64 d.2] T)).grownBy w7 (Value.slice fo A.F.length fc).ownBlock) (hfr : Fresh (w.alloc (.cells #[.int .i64 d.1, .int .i64 d.2] T)) (.slice fo A.F.length fc) v') :
    ∃ o7 c7, v' = .slice o7 (A.F.length + 1) c7 ∧ w7.cell? ⟨k, 4, none⟩ = some (.slice fo A.F.length fc) ∧ w7.frozen? ⟨k, 4, none⟩ = false ∧ SrAt w0 (w7.setCell ⟨k, 4, none⟩ (.slice o7 (A.F.length + 1) c7)) g k ⟨A.n, A.R, A.m, A.a, A.F ++ [d], A.t⟩ o c o7 c7 xs := by
  have hba := (Below.refl w.heap.size w).alloc (Nat.le_refl _) (.cells #[.int .i64 d.1, .int .i64 d.2] T)
  have h' := h.keep hba
  have hl9 : (A.F ++ [d]).length = A.F.length + 1 := by simp
  have hF7 : OwnD w7 (w0.heap.size + 1) v' (A.F ++ [d]) := own_snocD' hown
  obtain ⟨o7, c7, rfl⟩ := snoc_shape hF7
  have hO7 := h'.hO.far hgrow h.ap
  have ap7 := apartR_next h'.hO h.ap hfr
  have kg7 := h'.kS.grown hgrow (fun e => h.nF e.symm)
  have kZ7 := h'.kZ.grown hgrow (fun e => by have := (World.ownsRow.lt h'.hF _ e.symm).1; omega)
  have nF7 : (Value.slice o7 (A.F.length + 1) c7).ownBlock ≠ some k := fun e9 => by
    rcases hfr with h8 | h8
    · rw [h8] at e9; exact h.nF e9
    · have h8 := h8 k e9; have h9 := h.kS.lt; simp at h8; omega
  have hgk : g < k := by have := h.hk; have := h.hg; omega
  have hlow : ∀ i, (Value.slice fo A.F.length fc).ownBlock = some i → w0.heap.size + 1 ≤ i := fun i e => (World.ownsRow.lt h.hF i e).1
  have hc7 : Cur w7 g := Cur.grown h'.hc hgrow (fun i e => by have := hlow i e; have := h.hg; omega)
  have hG7 : w0.grownBy w7 (some g) := grown_more h'.hG hgrow (fun i e => by have := hlow i e; omega)
  refine ⟨o7, c7, rfl, kg7.cell 4 _ rfl, kg7.free 4, ?_⟩
  have hx : SrAt w0 (w7.setCell ⟨k, 4, none⟩ (.slice o7 (A.F ++ [d]).length c7)) g k ⟨A.n, A.R, A.m, A.a, A.F ++ [d], A.t⟩ o c o7 c7 xs := by
    rw [← hl9] at hF7 ap7 nF7
    exact ⟨kg7.set 4 _, kZ7.far ⟨k, 4, none⟩ _ (by have := h.hk; show w0.heap.size ≠ k; omega), ownRows_setAvoid hO7 h.nO 4 _, hF7.set_ne 4 _ nF7, ap7, h.nO, nF7, h.hk, hc7.set hgk, grown_new hG7 (Nat.le_of_lt h.hk), h.hg⟩
  rw [hl9] at hx
  exact hx
theorem avoid_low {w : World} {B k : Nat} {v : Value} {xs : List Value} {R : List (List Int)} (h : OwnRows w B v xs R) (hk : k < B) : Avoid k v xs := fun y hy e => by
  rcases hy with rfl | hy
  · have := (World.ownsRow.lt h.outer _ e).1; omega
  · have := h.low y hy _ e; omega
theorem ownD_low {w : World} {B k : Nat} {v : Value} {D : List (Int × Int)} (h : OwnD w B v D) (hk : k < B) : v.ownBlock ≠ some k := fun e => by
  have := (World.ownsRow.lt h _ e).1; omega
/-- some search of small size is answered -/
theorem SrRes.ex {f : FuncId} {args : Array Value} {w : World} {A : Sr} {q : Value → Value} {K : Nat} (h : SrRes f args w A q) (hs : Sm K A) :
    Calls Tryz.prog f args w fun e w' => ∃ (A : Sr) (o : Option Addr) (c : Nat) (fo : Option Addr) (fc : Nat) (xs : List Value), e = .returned (q (.agg #[.int .i64 A.n, .slice o A.R.length c, .int .i64 A.m, .int .i64 A.a, .slice fo A.F.length fc, .int .i64 A.t])) ∧ Sm K A ∧ OwnRows w' w.heap.size (.slice o A.R.length c) xs A.R ∧ OwnD w' w.heap.size (.slice fo A.F.length fc) A.F ∧ ApartR (.slice o A.R.length c) xs (.slice fo A.F.length fc) ∧ Below w.heap.size w w' := by
  unfold SrRes at h
  refine h.mono ?_
  rintro e w' ⟨o, c, fo, fc, xs, rfl, h1, h2, h3, h4⟩
  exact ⟨A, o, c, fo, fc, xs, rfl, hs, h1, h2, h3, h4⟩
end Go.Proofs.YtcenndlbhgfdfaaGreat
namespace Go.Proofs.YtcenndlbhgfdfaaGreat
open Go.RowKit
set_option linter.unusedVariables false
set_option maxRecDepth 100000

set_option maxHeartbeats 12800000 in
theorem c_l8Search (g : Nat) (w : World) (hc : Cur w g) :
    Calls Tryz.prog 41 #[.pointer (some ⟨g, 0, none⟩)] w fun e w' => ∃ (A : Sr) (o : Option Addr) (c : Nat) (fo : Option Addr) (fc : Nat) (xs : List Value), e = .returned (.agg #[.int .i64 A.n, .slice o A.R.length c, .int .i64 A.m, .int .i64 A.a, .slice fo A.F.length fc, .int .i64 A.t]) ∧ OwnRows w' w.heap.size (.slice o A.R.length c) xs A.R ∧ OwnD w' w.heap.size (.slice fo A.F.length fc) A.F ∧ Sm 161 A ∧ ApartR (.slice o A.R.length c) xs (.slice fo A.F.length fc) ∧ Cur w' g ∧ w.grownBy w' (some g) := by
  obtain ⟨i0, hi, hz0, hz1, hz2⟩ := info_parts info_dep
  have hlt := hc.lt
  have kZ := Blk.new w #[.int .i64 0, .slice none 0 0, .int .i64 0, .int .i64 0, .slice none 0 0, .int .i64 0] 29
  have hG := grown_of_below ((Below.refl w.heap.size w).alloc (Nat.le_refl _) (.cells #[.int .i64 0, .slice none 0 0, .int .i64 0, .int .i64 0, .slice none 0 0, .int .i64 0] 29)) (some g)
  replace hc := cur_alloc hc (.cells #[.int .i64 0, .slice none 0 0, .int .i64 0, .int .i64 0, .slice none 0 0, .int .i64 0] 29)
  go_enter Tryz.func41, Tryz.ntmps41
  go_wp2_with fail
  refine (c_l3Table g _ hc).mono ?_
  rintro e w1 ⟨N, o, c, xs, R, rfl, hO, ⟨_, _, hRl, hlen⟩, hc1, hg⟩
  have HLn : Hid (∀ j, j < R.length → (row R j).length ≤ 5) := hlen
  clear hlen
  simp only [World.size_alloc] at hO
  replace kZ := kZ.cur hg (show w.heap.size ≠ g by omega)
  replace hG := grown_trans hG hg
  clear hc hg
  have kT := Blk.new w1 #[.int .i64 N, .slice o R.length c] 26
  have hz := kZ.lt
  have hba := (Below.refl w1.heap.size w1).alloc (Nat.le_refl _) (.cells #[.int .i64 N, .slice o R.length c] 26)
  replace kZ := kZ.keep hba
  replace hO := hO.keep hba
  replace hc1 := hc1.keep hba
  replace hG := grown_trans hG (grown_of_below hba _)
  clear hba
  go_upto_region 2 with fail
  generalize w1.alloc (.cells #[.int .i64 N, .slice o R.length c] 26) = w2 at *
  obtain ⟨k6, hk6⟩ : ∃ k, w1.heap.size = k := ⟨_, rfl⟩
  rw [hk6] at kT hz
  simp only [hk6]
  clear hk6
  have hk6 := kT.lt
  have hRR : R.length ≤ Room := by unfold Room; omega
  have HRr : Hid (∀ j, j < R.length → (row R j).length ≤ Room) := fun j hj => Nat.le_trans (HLn.out j hj) (by unfold Room; omega)
  have HNS : Hid (∀ (q : Int) (w : World), RowsC w o R → Calls Tryz.prog 23 #[.agg #[.int .i64 N, .slice o R.length c], .int .i64 q] w fun e w' => ∃ (A : Sr) (o : Option Addr) (c : Nat) (fo : Option Addr) (fc : Nat) (xs : List Value), e = .returned (.tuple #[.agg #[.int .i64 A.n, .slice o A.R.length c, .int .i64 A.m, .int .i64 A.a, .slice fo A.F.length fc, .int .i64 A.t], .bool (isTabF N R && modeF q)]) ∧ Sm 160 A ∧ OwnRows w' w.heap.size (.slice o A.R.length c) xs A.R ∧ OwnD w' w.heap.size (.slice fo A.F.length fc) A.F ∧ ApartR (.slice o A.R.length c) xs (.slice fo A.F.length fc) ∧ Below w.heap.size w w') := fun q w h => (c_specNewSearch N o c R q w h).ex (ns_sm hRl HLn.out)
  have hlt2 := hc1.lt
  go_cut [4, 5] from 8 to 14 (fun p b wx => ∃ k A o8 c8 fo8 fc8 xs8, p = .pointer (some ⟨k, 0, none⟩) ∧ Sm 160 A ∧ SrAt w wx g k A o8 c8 fo8 fc8 xs8)
  case first =>
    have n0 := kT.cell 0 (.int .i64 N) rfl
    have n1 := kT.cell 1 (.slice o R.length c) rfl
    have n0d := kT.drew.cell 0 (.int .i64 N) rfl
    have n1d := kT.drew.cell 1 (.slice o R.length c) rfl
    have n0a := fun ob => (kT.alloc ob).cell 0 (.int .i64 N) rfl
    have n1a := fun ob => (kT.alloc ob).cell 1 (.slice o R.length c) rfl
    have n0b := fun ob => (kT.alloc ob).drew.cell 0 (.int .i64 N) rfl
    have n1b := fun ob => (kT.alloc ob).drew.cell 1 (.slice o R.length c) rfl
    have tok0 : Hid True := trivial
    go_region_law (first
      | (clear tok0; (try go_simp); refine (c_l1Below g 2 (by omega) _ (hc1.keep (by first | exact Below.refl _ _ | exact (Below.refl _ _).drew | exact (Below.refl _ _).alloc (Nat.le_refl _) _ | exact ((Below.refl _ _).alloc (Nat.le_refl _) _).drew))).mono ?_; rintro e w5 ⟨q, rfl, _, _, _, hc5, hg⟩; have hg3 : w2.grownBy w5 (some g) := grown_trans (grown_of_below (by first | exact Below.refl _ _ | exact (Below.refl _ _).drew | exact (Below.refl _ _).alloc (Nat.le_refl _) _ | exact ((Below.refl _ _).alloc (Nat.le_refl _) _).drew) (some g)) hg; (try have kS := Blk.cur (Blk.new w2 #[.int .i64 0, .slice none 0 0, .int .i64 0, .int .i64 0, .slice none 0 0, .int .i64 0] 29) hg (show w2.heap.size ≠ g by omega)); (try have kS := Blk.cur (Blk.new w2 #[.int .i64 0, .slice none 0 0, .int .i64 0, .int .i64 0, .slice none 0 0, .int .i64 0] 29).drew hg (show w2.heap.size ≠ g by omega)); (try have hks := kS.lt); have kT5 := kT.cur hg3 (show k6 ≠ g by omega); have kZ5 := kZ.cur hg3 (show w.heap.size ≠ g by omega); have hO5 := hO.cur hg3 (show g < w.heap.size + 1 by omega); have hG5 := grown_trans hG hg3; have hz5 := hg3.size; have hRC5 := hO5.readC hRR HRr.out; have p0 := kT5.cell 0 (.int .i64 N) rfl; have p1 := kT5.cell 1 (.slice o R.length c) rfl; have p0d := kT5.drew.cell 0 (.int .i64 N) rfl; have p1d := kT5.drew.cell 1 (.slice o R.length c) rfl; have p0a := fun ob => (kT5.alloc ob).cell 0 (.int .i64 N) rfl; have p1a := fun ob => (kT5.alloc ob).cell 1 (.slice o R.length c) rfl; clear hg hg3)
      | ((try go_simp); refine (HNS.out q _ (hRC5.keep (by first | exact Below.refl _ _ | exact (Below.refl _ _).drew | exact (Below.refl _ _).alloc (Nat.le_refl _) _ | exact ((Below.refl _ _).alloc (Nat.le_refl _) _).drew))).mono ?_; rintro e w6 ⟨A, o8, c8, fo8, fc8, xs8, rfl, hsm, hO8, hF8, ap8, hbn⟩; have hbz := bel_to (w := w5) (by first | exact Below.refl _ _ | exact (Below.refl _ _).drew | exact (Below.refl _ _).alloc (Nat.le_refl _) _ | exact ((Below.refl _ _).alloc (Nat.le_refl _) _).drew) hbn; (try replace kS := Blk.keep kS hbz); (try have kS := Blk.keep (Blk.new w5 #[.int .i64 0, .slice none 0 0, .int .i64 0, .int .i64 0, .slice none 0 0, .int .i64 0] 29) hbn); (try have kS := Blk.keep (Blk.drew (Blk.new w5 #[.int .i64 0, .slice none 0 0, .int .i64 0, .int .i64 0, .slice none 0 0, .int .i64 0] 29)) hbn); (try have s0 := kS.cell 0 _ rfl; have s1 := kS.cell 1 _ rfl; have s2 := kS.cell 2 _ rfl; have s3 := kS.cell 3 _ rfl; have s4 := kS.cell 4 _ rfl; have s5 := kS.cell 5 _ rfl; have f0 := kS.free 0; have f1 := kS.free 1; have f2 := kS.free 2; have f3 := kS.free 3; have f4 := kS.free 4; have f5 := kS.free 5))
      | fail)
    all_goals
      go_wp2_with fail
      go_meet
      have hz6 := hbz.size
      have hB5 : w.heap.size + 1 ≤ w5.heap.size := by omega
      try have nO := avoid_low hO8 hks
      try have nF := ownD_low hF8 hks
      first
        | (refine ⟨w2.heap.size, A, o8, c8, fo8, fc8, xs8, (by with_reducible rfl), hsm, ?_⟩; exact srat_put kS (kZ5.keep hbz) (hO8.based (by first | omega | (simp; omega) | simp)) (hF8.based (by first | omega | (simp; omega) | simp)) ap8 nO nF (by omega) (hc5.keep hbz) (grown_trans hG5 (grown_of_below hbz _)) hlt _ rfl)
        | (refine ⟨w5.heap.size, A, o8, c8, fo8, fc8, xs8, (by with_reducible rfl), hsm, ?_⟩; exact srat_put kS (kZ5.keep hbz) (hO8.based (by first | omega | (simp; omega) | simp)) (hF8.based (by first | omega | (simp; omega) | simp)) ap8 (avoid_low hO8 (by simp)) (ownD_low hF8 (by simp)) (by omega) (hc5.keep hbz) (grown_trans hG5 (grown_of_below hbz _)) hlt _ rfl)
        | (refine ⟨w6.heap.size, A, o8, c8, fo8, fc8, xs8, (by with_reducible rfl), hsm, ?_⟩; exact srat_new (kZ5.keep hbz) (hO8.based (by first | omega | (simp; omega) | simp)) (hF8.based (by first | omega | (simp; omega) | simp)) ap8 (hc5.keep hbz) (grown_trans hG5 (grown_of_below hbz _)) hlt _ rfl)
  case rest =>
    obtain ⟨k, A, o, c, fo, fc, xs, rfl, hsm, h⟩ := hcut
    clear hO kT kZ hc1 hG HNS HRr HLn hRl hRR hlt2 hk6 hz
    go_upto_region 3 with fail
    have hRR : A.R.length ≤ Room := by have := hsm.1; unfold Room; omega
    have HRr : Hid (∀ j, j < A.R.length → (row A.R j).length ≤ Room) := fun j hj => Nat.le_trans (hsm.2.1 j hj) (by unfold Room; omega)
    have hFR : A.F.length ≤ Room := by have := hsm.2.2.1; unfold Room; omega
    have HRS : Hid (∀ (b : Int) (w : World), RowsC w o A.R → DepsAt w fo A.F → (fo = none → fc = 0) → Calls Tryz.prog 9 #[.agg #[.int .i64 A.n, .slice o A.R.length c, .int .i64 A.m, .int .i64 A.a, .slice fo A.F.length fc, .int .i64 A.t], .int .i64 b] w fun e w' => ∃ (A : Sr) (o : Option Addr) (c : Nat) (fo : Option Addr) (fc : Nat) (xs : List Value), e = .returned (.agg #[.int .i64 A.n, .slice o A.R.length c, .int .i64 A.m, .int .i64 A.a, .slice fo A.F.length fc, .int .i64 A.t]) ∧ Sm 160 A ∧ OwnRows w' w.heap.size (.slice o A.R.length c) xs A.R ∧ OwnD w' w.heap.size (.slice fo A.F.length fc) A.F ∧ ApartR (.slice o A.R.length c) xs (.slice fo A.F.length fc) ∧ Below w.heap.size w w') := fun b w h1 h2 h3 => (c_specRunSearch A o fo c fc b w h1 ⟨Nat.le_trans hsm.1 (by omega), fun j hj => Nat.le_trans (hsm.2.1 j hj) (by omega)⟩ h2 (Nat.le_trans hsm.2.2.1 (by omega)) h3).ex (run_sm hsm)
    skip
    go_cut [4] from 15 to 18 (fun p wx => p = .pointer (some ⟨k, 0, none⟩) ∧ ∃ A o8 c8 fo8 fc8 xs8, Sm 160 A ∧ SrAt w wx g k A o8 c8 fo8 fc8 xs8)
    case first =>
      have tr : True := trivial
      refine wp_region_held_drew (S := fun _ => True) (by kernel_rfl) trivial (fun _ => ?_)
      have hd := h.keep (Below.refl _ _).drew
      clear h
      (refine wpAnyH_val (i := 1) (some 16) ?_ rfl rfl (by kernel_rfl) (by kernel_rfl) (by kernel_rfl) (fun _ _ _ h => h) (by rfl) (by assumption) ?_ ?_; rotate_left; (intro w hSw; go_simp; (try with_reducible rfl)); (try simp only [Act.put, List.setIfInBounds_toArray, List.set_cons_zero, List.set_cons_succ]))
      refine wpAnyH_ready (rs := [0, 2]) (by kernel_rfl) (by simp) ?_
      refine AllReadyH.cons rfl (fun K hK => ?_) (AllReadyH.cons rfl (fun K hK => ?_) AllReadyH.nil)
      · skip
        have n0 := hd.kS.cell 0 (.int .i64 A.n) rfl
        have n1 := hd.kS.cell 1 (.slice o A.R.length c) rfl
        have n2 := hd.kS.cell 2 (.int .i64 A.m) rfl
        have n3 := hd.kS.cell 3 (.int .i64 A.a) rfl
        have n4 := hd.kS.cell 4 (.slice fo A.F.length fc) rfl
        have n5 := hd.kS.cell 5 (.int .i64 A.t) rfl
        go_simp
        refine hK.out _ _ trivial (fun _ => ?_)
        clear hK
        clear n0 n1 n2 n3 n4 n5
        (try simp only [Act.put, List.setIfInBounds_toArray, List.set_cons_zero, List.set_cons_succ])
        (refine wpAnyH_ready (rs := [2]) (by kernel_rfl) (by simp) ?_; refine AllReadyH.cons rfl (fun K hK => ?_) AllReadyH.nil; go_simp)
        refine (c_l1Below g 30 (by omega) _ hd.hc).mono ?_
        rintro e w5 ⟨q, rfl, _, _, _, hc5, hg⟩
        have h5 := hd.cur hg hc5
        clear hg hd
        refine hK.out _ _ trivial (fun _ => ?_)
        clear hK
        (try simp only [Act.put, List.setIfInBounds_toArray, List.set_cons_zero, List.set_cons_succ])
        (refine wpAnyH_ready (rs := [3]) (by kernel_rfl) (by simp) ?_; refine AllReadyH.cons rfl (fun K hK => ?_) AllReadyH.nil; go_simp)
        refine (HRS.out q _ (h5.hO.readC hRR HRr.out) (h5.hF.deps rfl hFR) h5.hF.nilcap).mono ?_
        rintro e w6 ⟨A2, o8, c8, fo8, fc8, xs8, rfl, hsm2, hO8, hF8, ap8, hbz⟩
        have h6 := h5.keep hbz
        refine hK.out _ _ trivial (fun _ => ?_)
        clear hK
        (try simp only [Act.put, List.setIfInBounds_toArray, List.set_cons_zero, List.set_cons_succ])
        have s0 := h6.kS.cell 0 (.int .i64 A.n) rfl
        have s1 := h6.kS.cell 1 (.slice o A.R.length c) rfl
        have s2 := h6.kS.cell 2 (.int .i64 A.m) rfl
        have s3 := h6.kS.cell 3 (.int .i64 A.a) rfl
        have s4 := h6.kS.cell 4 (.slice fo A.F.length fc) rfl
        have s5 := h6.kS.cell 5 (.int .i64 A.t) rfl
        have f0 := h6.kS.free 0; have f1 := h6.kS.free 1; have f2 := h6.kS.free 2; have f3 := h6.kS.free 3; have f4 := h6.kS.free 4; have f5 := h6.kS.free 5
        (refine wpAnyH_ready (rs := [4]) (by kernel_rfl) (by simp) ?_; refine AllReadyH.cons rfl (fun K hK => ?_) AllReadyH.nil; go_simp)
        refine hK.out _ _ trivial (fun _ => ?_)
        clear hK
        (try simp only [Act.put, List.setIfInBounds_toArray, List.set_cons_zero, List.set_cons_succ])
        refine wpAnyH_done (by kernel_rfl) ?_ _
        try dsimp only [NoPanic, Exit.then]
        go_wp2
        go_meet
        have hk5 := h5.kS.lt
        have hkw := h5.hk
        exact ⟨rfl, A2, o8, c8, fo8, fc8, xs8, hsm2, srat_put h6.kS h6.kZ (hO8.based (by first | omega | (simp; omega))) (hF8.based (by first | omega | (simp; omega))) ap8 (avoid_low hO8 (by first | omega | (simp; omega))) (ownD_low hF8 (by first | omega | (simp; omega))) hkw h6.hc h6.hG hlt _ rfl⟩
      · skip
        go_simp
        refine (c_l1Below g 30 (by omega) _ hd.hc).mono ?_
        rintro e w5 ⟨q, rfl, _, _, _, hc5, hg⟩
        have h5 := hd.cur hg hc5
        clear hg hd
        refine hK.out _ _ trivial (fun _ => ?_)
        clear hK
        (try simp only [Act.put, List.setIfInBounds_toArray, List.set_cons_zero, List.set_cons_succ])
        (refine wpAnyH_ready (rs := [0]) (by kernel_rfl) (by simp) ?_; refine AllReadyH.cons rfl (fun K hK => ?_) AllReadyH.nil; go_simp)
        have n0 := h5.kS.cell 0 (.int .i64 A.n) rfl
        have n1 := h5.kS.cell 1 (.slice o A.R.length c) rfl
        have n2 := h5.kS.cell 2 (.int .i64 A.m) rfl
        have n3 := h5.kS.cell 3 (.int .i64 A.a) rfl
        have n4 := h5.kS.cell 4 (.slice fo A.F.length fc) rfl
        have n5 := h5.kS.cell 5 (.int .i64 A.t) rfl
        go_simp
        refine hK.out _ _ trivial (fun _ => ?_)
        clear hK
        clear n0 n1 n2 n3 n4 n5
        (try simp only [Act.put, List.setIfInBounds_toArray, List.set_cons_zero, List.set_cons_succ])
        (refine wpAnyH_ready (rs := [3]) (by kernel_rfl) (by simp) ?_; refine AllReadyH.cons rfl (fun K hK => ?_) AllReadyH.nil; go_simp)
        refine (HRS.out q _ (h5.hO.readC hRR HRr.out) (h5.hF.deps rfl hFR) h5.hF.nilcap).mono ?_
        rintro e w6 ⟨A2, o8, c8, fo8, fc8, xs8, rfl, hsm2, hO8, hF8, ap8, hbz⟩
        have h6 := h5.keep hbz
        refine hK.out _ _ trivial (fun _ => ?_)
        clear hK
        (try simp only [Act.put, List.setIfInBounds_toArray, List.set_cons_zero, List.set_cons_succ])
        have s0 := h6.kS.cell 0 (.int .i64 A.n) rfl
        have s1 := h6.kS.cell 1 (.slice o A.R.length c) rfl
        have s2 := h6.kS.cell 2 (.int .i64 A.m) rfl
        have s3 := h6.kS.cell 3 (.int .i64 A.a) rfl
        have s4 := h6.kS.cell 4 (.slice fo A.F.length fc) rfl
        have s5 := h6.kS.cell 5 (.int .i64 A.t) rfl
        have f0 := h6.kS.free 0; have f1 := h6.kS.free 1; have f2 := h6.kS.free 2; have f3 := h6.kS.free 3; have f4 := h6.kS.free 4; have f5 := h6.kS.free 5
        (refine wpAnyH_ready (rs := [4]) (by kernel_rfl) (by simp) ?_; refine AllReadyH.cons rfl (fun K hK => ?_) AllReadyH.nil; go_simp)
        refine hK.out _ _ trivial (fun _ => ?_)
        clear hK
        (try simp only [Act.put, List.setIfInBounds_toArray, List.set_cons_zero, List.set_cons_succ])
        refine wpAnyH_done (by kernel_rfl) ?_ _
        try dsimp only [NoPanic, Exit.then]
        go_wp2
        go_meet
        have hk5 := h5.kS.lt
        have hkw := h5.hk
        exact ⟨rfl, A2, o8, c8, fo8, fc8, xs8, hsm2, srat_put h6.kS h6.kZ (hO8.based (by first | omega | (simp; omega))) (hF8.based (by first | omega | (simp; omega))) ap8 (avoid_low hO8 (by first | omega | (simp; omega))) (ownD_low hF8 (by first | omega | (simp; omega))) hkw h6.hc h6.hG hlt _ rfl⟩
    case rest =>
      obtain ⟨rfl, A, o, c, fo, fc, xs, hsm, h2⟩ := hcut
      clear h HRS HRr hRR hFR
      go_wp2_with fail
      refine (c_l1Below g 14 (by omega) _ h2.hc).mono ?_
      rintro e w8 ⟨q, rfl, _, _, _, hc8, hg⟩
      have h8 := h2.cur hg hc8
      clear h2 hg hc8
      by_cases e0 : q = 0
      · have hL := fun T => lit_ints w8 #[.int .i64 (-1), .int .i64 0, .int .i64 5, .int .i64 160, .int .i64 161] [-1, 0, 5, 160, 161] (by simp) (fun k hk => by match k, hk with | 0, _ => rfl | 1, _ => rfl | 2, _ => rfl | 3, _ => rfl | 4, _ => rfl) T
        go_wp2_with fail
        refine (c_l1PickInt g _ 5 [-1, 0, 5, 160, 161] (by simp) (by simp) _ (cur_alloc h8.hc _) (hL _) (fun a e => by injection e with e; subst e; have := h8.hc.lt; simp; omega)).mono ?_
        rintro e w9 ⟨a, rfl, _, hc9, hg⟩
        have h9 := h8.cur (grown_alloc hg) hc9
        clear h8 hL hg hc9
        have n3 := h9.kS.cell 3 (.int .i64 A.a) rfl
        have f3 := h9.kS.free 3
        have h10 := h9.setA a
        have n0 := h10.kS.cell 0 (.int .i64 A.n) rfl
        have n1 := h10.kS.cell 1 (.slice o A.R.length c) rfl
        have n2 := h10.kS.cell 2 (.int .i64 A.m) rfl
        have n3 := h10.kS.cell 3 (.int .i64 a) rfl
        have n4 := h10.kS.cell 4 (.slice fo A.F.length fc) rfl
        have n5 := h10.kS.cell 5 (.int .i64 A.t) rfl
        have z0 := h10.kZ.cell 0 _ rfl
        have f0 := h10.kZ.free 0
        have z1 := h10.kZ.cell 1 _ rfl
        have f1 := h10.kZ.free 1
        have z2 := h10.kZ.cell 2 _ rfl
        have f2 := h10.kZ.free 2
        have z3 := h10.kZ.cell 3 _ rfl
        have f3 := h10.kZ.free 3
        have z4 := h10.kZ.cell 4 _ rfl
        have f4 := h10.kZ.free 4
        have z5 := h10.kZ.cell 5 _ rfl
        have f5 := h10.kZ.free 5
        obtain ⟨k2, hO2, hF2, hc2, hG2⟩ := h10.out (set6 _ w.heap.size (.int .i64 A.n) (.slice o A.R.length c) (.int .i64 A.m) (.int .i64 a) (.slice fo A.F.length fc) (.int .i64 A.t)) rfl
        unfold set6 at k2 hO2 hF2 hc2 hG2
        have q0 := k2.cell 0 (.int .i64 A.n) rfl
        have q1 := k2.cell 1 (.slice o A.R.length c) rfl
        have q2 := k2.cell 2 (.int .i64 A.m) rfl
        have q3 := k2.cell 3 (.int .i64 a) rfl
        have q4 := k2.cell 4 (.slice fo A.F.length fc) rfl
        have q5 := k2.cell 5 (.int .i64 A.t) rfl
        go_wp2
        exact bodyPost_ret (v := .agg #[.int .i64 A.n, .slice o A.R.length c, .int .i64 A.m, .int .i64 a, .slice fo A.F.length fc, .int .i64 A.t]) (by simp only [results, Tryz.results41]; simp [go_sem, set6, q0, q1, q2, q3, q4, q5]) rfl ⟨⟨A.n, A.R, A.m, a, A.F, A.t⟩, o, c, fo, fc, _, rfl, hO2, hF2, hsm.up, h10.ap, hc2, hG2⟩
      · by_cases e1 : q = 1
        · have n4 := h8.kS.cell 4 (.slice fo A.F.length fc) rfl
          have n4d := h8.kS.drew.cell 4 (.slice fo A.F.length fc) rfl
          go_wp2_with fail
          go_region_law (first
            | ((try go_simp); refine (c_l6Dep g 3 (by omega) _ (h8.hc.keep (by first | exact Below.refl _ _ | exact (Below.refl _ _).drew))).mono ?_; rintro e w9 ⟨l, r, rfl, hc9, hg⟩; have h9 := h8.cur (grown_trans (grown_of_below (by first | exact Below.refl _ _ | exact (Below.refl _ _).drew) (some g)) hg) hc9; have s4 := h9.kS.cell 4 (.slice fo A.F.length fc) rfl; have s4d := h9.kS.drew.cell 4 (.slice fo A.F.length fc) rfl; have s4a := fun ob => (h9.kS.alloc ob).cell 4 (.slice fo A.F.length fc) rfl; have s4b := fun ob => (h9.kS.alloc ob).drew.cell 4 (.slice fo A.F.length fc) rfl; have hk9 := h9.kS.lt; clear hg)
            | (refine step_append_held _ (by rfl) _ _ 27 (by rfl) (w.heap.size + 1) 38 i0 (.agg #[.int .i64 0, .int .i64 0]) 2 16 Tryz.underlying27 hi hz0 hz1 hz2 rfl (by decide) (.slice fo A.F.length fc) _ _ (by rfl) (World.ownsRow.alloc h9.hF _) _ 1 1 [.int .i64 l, .int .i64 r] (by rfl) rfl (World.news_of_block (cs := #[.int .i64 l, .int .i64 r]) (t := 38) (fr := (0, 0)) (heap_new_at (by simp))) (by intro u hu; simp at hu; rcases hu with rfl | rfl <;> rfl) (by unfold maxLen; have := hsm.2.2.1; omega) (by have := hsm.2.2.1; omega) (by have := h9.hk; simp; omega) ?_; intro v7 w10 hown _ hgrow hfr; (try replace hgrow := drew_grown hgrow); (try replace hfr := drew_fresh hfr); obtain ⟨o7, c7, rfl, t4, u4, h10⟩ := h9.app (d := (l, r)) hown hgrow hfr; clear hown hgrow hfr)
            | fail)
          all_goals
            have hl9 : (A.F ++ [(l, r)]).length = A.F.length + 1 := by simp
            have hsm2 : Sm 161 ⟨A.n, A.R, A.m, A.a, A.F ++ [(l, r)], A.t⟩ := ⟨hsm.1, hsm.2.1, by show (A.F ++ [(l, r)]).length ≤ 161; have := hsm.2.2.1; omega, hsm.2.2.2.1, hsm.up.2.2.2.2⟩
            have kS7 : Blk (w10.setCell ⟨k, 4, none⟩ (.slice o7 (A.F.length + 1) c7)) k #[.int .i64 A.n, .slice o A.R.length c, .int .i64 A.m, .int .i64 A.a, .slice o7 (A.F.length + 1) c7, .int .i64 A.t] 29 := by have := h10.kS; simp only [hl9] at this; exact this
            have n0 := kS7.cell 0 (.int .i64 A.n) rfl
            have n1 := kS7.cell 1 (.slice o A.R.length c) rfl
            have n2 := kS7.cell 2 (.int .i64 A.m) rfl
            have n3 := kS7.cell 3 (.int .i64 A.a) rfl
            have n4 := kS7.cell 4 (.slice o7 (A.F.length + 1) c7) rfl
            have n5 := kS7.cell 5 (.int .i64 A.t) rfl
            have z0 := h10.kZ.cell 0 _ rfl
            have f0 := h10.kZ.free 0
            have z1 := h10.kZ.cell 1 _ rfl
            have f1 := h10.kZ.free 1
            have z2 := h10.kZ.cell 2 _ rfl
            have f2 := h10.kZ.free 2
            have z3 := h10.kZ.cell 3 _ rfl
            have f3 := h10.kZ.free 3
            have z4 := h10.kZ.cell 4 _ rfl
            have f4 := h10.kZ.free 4
            have z5 := h10.kZ.cell 5 _ rfl
            have f5 := h10.kZ.free 5
            obtain ⟨k2, hO2, hF2, hc2, hG2⟩ := h10.out (set6 (w10.setCell ⟨k, 4, none⟩ (.slice o7 (A.F.length + 1) c7)) w.heap.size (.int .i64 A.n) (.slice o A.R.length c) (.int .i64 A.m) (.int .i64 A.a) (.slice o7 (A.F.length + 1) c7) (.int .i64 A.t)) (by show _ = set6 _ _ _ _ _ _ (.slice o7 (A.F ++ [(l, r)]).length c7) _; rw [hl9])
            unfold set6 at k2 hO2 hF2 hc2 hG2
            simp only [hl9] at k2
            have hl8 : Hid ((A.F ++ [(l, r)]).length = A.F.length + 1) := hl9
            clear hl9
            have q0 := k2.cell 0 (.int .i64 A.n) rfl
            have q1 := k2.cell 1 (.slice o A.R.length c) rfl
            have q2 := k2.cell 2 (.int .i64 A.m) rfl
            have q3 := k2.cell 3 (.int .i64 A.a) rfl
            have q4 := k2.cell 4 (.slice o7 (A.F.length + 1) c7) rfl
            have q5 := k2.cell 5 (.int .i64 A.t) rfl
            go_wp2
            exact bodyPost_ret (v := .agg #[.int .i64 A.n, .slice o A.R.length c, .int .i64 A.m, .int .i64 A.a, .slice o7 (A.F.length + 1) c7, .int .i64 A.t]) (by simp only [results, Tryz.results41]; simp [go_sem, set6, q0, q1, q2, q3, q4, q5]) rfl ⟨⟨A.n, A.R, A.m, A.a, A.F ++ [(l, r)], A.t⟩, o, c, o7, c7, (by simp only [hl8.out]), _, hO2, hF2, hsm2, h10.ap, hc2, hG2⟩
        · by_cases e2 : q = 2
          · have n5 := h8.kS.cell 5 (.int .i64 A.t) rfl
            have f5' := h8.kS.free 5
            obtain ⟨t2, ht2⟩ : ∃ t2, A.t + 1 = t2 := ⟨_, rfl⟩
            have htw : IntKind.i64.wrap (A.t + 1) = t2 := by rw [← ht2]; have := hsm.2.2.2; unfold IntKind.wrap; simp [IntKind.bits, IntKind.signed]; omega
            have hsm2 : Sm 161 ⟨A.n, A.R, A.m, A.a, A.F, t2⟩ := by rw [← ht2]; exact ⟨hsm.1, hsm.2.1, hsm.up.2.2.1, by have := hsm.2.2.2.1; show 0 ≤ A.t + 1; omega, by have := hsm.2.2.2.2; show A.t + 1 ≤ ((161 : Nat) : Int); omega⟩
            clear ht2
            have h10 := h8.setT t2
            have n0 := h10.kS.cell 0 (.int .i64 A.n) rfl
            have n1 := h10.kS.cell 1 (.slice o A.R.length c) rfl
            have n2 := h10.kS.cell 2 (.int .i64 A.m) rfl
            have n3 := h10.kS.cell 3 (.int .i64 A.a) rfl
            have n4 := h10.kS.cell 4 (.slice fo A.F.length fc) rfl
            have n5 := h10.kS.cell 5 (.int .i64 t2) rfl
            have z0 := h10.kZ.cell 0 _ rfl
            have f0 := h10.kZ.free 0
            have z1 := h10.kZ.cell 1 _ rfl
            have f1 := h10.kZ.free 1
            have z2 := h10.kZ.cell 2 _ rfl
            have f2 := h10.kZ.free 2
            have z3 := h10.kZ.cell 3 _ rfl
            have f3 := h10.kZ.free 3
            have z4 := h10.kZ.cell 4 _ rfl
            have f4 := h10.kZ.free 4
            have z5 := h10.kZ.cell 5 _ rfl
            have f5 := h10.kZ.free 5
            obtain ⟨k2, hO2, hF2, hc2, hG2⟩ := h10.out (set6 _ w.heap.size (.int .i64 A.n) (.slice o A.R.length c) (.int .i64 A.m) (.int .i64 A.a) (.slice fo A.F.length fc) (.int .i64 t2)) rfl
            unfold set6 at k2 hO2 hF2 hc2 hG2
            have q0 := k2.cell 0 (.int .i64 A.n) rfl
            have q1 := k2.cell 1 (.slice o A.R.length c) rfl
            have q2 := k2.cell 2 (.int .i64 A.m) rfl
            have q3 := k2.cell 3 (.int .i64 A.a) rfl
            have q4 := k2.cell 4 (.slice fo A.F.length fc) rfl
            have q5 := k2.cell 5 (.int .i64 t2) rfl
            go_wp2
            exact bodyPost_ret (v := .agg #[.int .i64 A.n, .slice o A.R.length c, .int .i64 A.m, .int .i64 A.a, .slice fo A.F.length fc, .int .i64 t2]) (by simp only [results, Tryz.results41]; simp [go_sem, set6, q0, q1, q2, q3, q4, q5]) rfl ⟨⟨A.n, A.R, A.m, A.a, A.F, t2⟩, o, c, fo, fc, _, rfl, hO2, hF2, hsm2, h10.ap, hc2, hG2⟩
          · skip
            have n0 := h8.kS.cell 0 (.int .i64 A.n) rfl
            have n1 := h8.kS.cell 1 (.slice o A.R.length c) rfl
            have n2 := h8.kS.cell 2 (.int .i64 A.m) rfl
            have n3 := h8.kS.cell 3 (.int .i64 A.a) rfl
            have n4 := h8.kS.cell 4 (.slice fo A.F.length fc) rfl
            have n5 := h8.kS.cell 5 (.int .i64 A.t) rfl
            have z0 := h8.kZ.cell 0 _ rfl
            have f0 := h8.kZ.free 0
            have z1 := h8.kZ.cell 1 _ rfl
            have f1 := h8.kZ.free 1
            have z2 := h8.kZ.cell 2 _ rfl
            have f2 := h8.kZ.free 2
            have z3 := h8.kZ.cell 3 _ rfl
            have f3 := h8.kZ.free 3
            have z4 := h8.kZ.cell 4 _ rfl
            have f4 := h8.kZ.free 4
            have z5 := h8.kZ.cell 5 _ rfl
            have f5 := h8.kZ.free 5
            go_wp2_with fail
            obtain ⟨k2, hO2, hF2, hc2, hG2⟩ := h8.out (set6 _ w.heap.size (.int .i64 A.n) (.slice o A.R.length c) (.int .i64 A.m) (.int .i64 A.a) (.slice fo A.F.length fc) (.int .i64 A.t)) rfl
            unfold set6 at k2 hO2 hF2 hc2 hG2
            have q0 := k2.cell 0 (.int .i64 A.n) rfl
            have q1 := k2.cell 1 (.slice o A.R.length c) rfl
            have q2 := k2.cell 2 (.int .i64 A.m) rfl
            have q3 := k2.cell 3 (.int .i64 A.a) rfl
            have q4 := k2.cell 4 (.slice fo A.F.length fc) rfl
            have q5 := k2.cell 5 (.int .i64 A.t) rfl
            exact bodyPost_ret (v := .agg #[.int .i64 A.n, .slice o A.R.length c, .int .i64 A.m, .int .i64 A.a, .slice fo A.F.length fc, .int .i64 A.t]) (by simp only [results, Tryz.results41]; simp [go_sem, set6, q0, q1, q2, q3, q4, q5]) rfl ⟨A, o, c, fo, fc, _, rfl, hO2, hF2, hsm.up, h8.ap, hc2, hG2⟩
end Go.Proofs.YtcenndlbhgfdfaaGreat
namespace Go.Proofs.YtcenndlbhgfdfaaGreat
open Go.RowKit
set_option linter.unusedVariables false
set_option maxRecDepth 100000

set_option maxHeartbeats 3200000 in
theorem c_l3Any (g : Nat) (w : World) (hc : Cur w g) :
    Calls Tryz.prog 94 #[.pointer (some ⟨g, 0, none⟩)] w fun e w' => ∃ (n : Int) (o : Option Addr) (c : Nat) (xs : List Value) (R : List (List Int)), e = .returned (.agg #[.int .i64 n, .slice o R.length c]) ∧ OwnRows w' w.heap.size (.slice o R.length c) xs R ∧ (R.length ≤ 13 ∧ ∀ j, j < R.length → (row R j).length ≤ 5) ∧ Cur w' g ∧ w.grownBy w' (some g) := by
  obtain ⟨i0, hi, hz0, hz1, hz2⟩ := info_parts info_int
  obtain ⟨j0, hj, hy0, hy1, hy2⟩ := info_parts info_ints
  have hlt := hc.lt
  have kZ := Blk.new w #[.int .i64 0, .slice none 0 0] 26
  have hG := grown_of_below ((Below.refl w.heap.size w).alloc (Nat.le_refl _) (.cells #[.int .i64 0, .slice none 0 0] 26)) (some g)
  replace hc := cur_alloc hc (.cells #[.int .i64 0, .slice none 0 0] 26)
  go_enter Tryz.func94, Tryz.ntmps94
  go_wp2_with fail
  refine (c_l3Table g _ hc).mono ?_
  rintro e w1 ⟨N, o, c, xs, R, rfl, hO, ⟨_, _, hRl, hlen⟩, hc1, hg⟩
  have HLn : Hid (∀ j, j < R.length → (row R j).length ≤ 5) := hlen
  clear hlen
  simp only [World.size_alloc] at hO
  replace kZ := kZ.cur hg (show w.heap.size ≠ g by omega)
  replace hG := grown_trans hG hg
  clear hc hg
  have kT := Blk.new w1 #[.int .i64 N, .slice o R.length c] 26
  have hz := kZ.lt
  have av : Avoid w1.heap.size (.slice o R.length c) xs := fun y hy e => by
    have := hO.old (Nat.le_refl _) y hy _ e
    omega
  have hba := (Below.refl w1.heap.size w1).alloc (Nat.le_refl _) (.cells #[.int .i64 N, .slice o R.length c] 26)
  replace kZ := kZ.keep hba
  replace hO := hO.keep hba
  replace hc1 := hc1.keep hba
  replace hG := grown_trans hG (grown_of_below hba _)
  clear hba
  go_upto_region 2 with fail
  generalize w1.alloc (.cells #[.int .i64 N, .slice o R.length c] 26) = w2 at *
  obtain ⟨k6, hk6⟩ : ∃ k, w1.heap.size = k := ⟨_, rfl⟩
  rw [hk6] at kT hz av
  simp only [hk6]
  clear hk6
  go_wp2_with fail
  refine (c_l1Below g 12 (by omega) _ hc1).mono ?_
  rintro e w3 ⟨q, rfl, _, _, _, hc3, hg⟩
  replace kZ := kZ.cur hg (show w.heap.size ≠ g by omega)
  replace kT := kT.cur hg (show k6 ≠ g by omega)
  replace hO := hO.cur hg (show g < w.heap.size + 1 by omega)
  replace hG := grown_trans hG hg
  clear hc1 hg
  have hk6 := kT.lt
  have hlt3 := hc3.lt
  by_cases e0 : q = 0
  · have hL := fun T => lit_ints w3 #[.int .i64 0, .int .i64 1, .int .i64 5, .int .i64 6] [0, 1, 5, 6] (by simp) (fun k hk => by match k, hk with | 0, _ => rfl | 1, _ => rfl | 2, _ => rfl | 3, _ => rfl) T
    go_wp2_with fail
    refine (c_l1PickInt g _ 4 [0, 1, 5, 6] (by simp) (by simp) _ (cur_alloc hc3 _) (hL _) (fun a e => by injection e with e; subst e; simp; omega)).mono ?_
    rintro e w4 ⟨n, rfl, _, hc4, hg⟩
    replace hg := grown_alloc hg
    replace kZ := kZ.cur hg (show w.heap.size ≠ g by omega)
    replace kT := kT.cur hg (show k6 ≠ g by omega)
    replace hO := hO.cur hg (show g < w.heap.size + 1 by omega)
    replace hG := grown_trans hG hg
    clear hc3 hg hL
    have n0 := kT.cell 0 (.int .i64 N) rfl
    have g0 := kT.free 0
    have kT2 : Blk _ k6 #[.int .i64 n, .slice o R.length c] 26 := kT.set 0 (.int .i64 n)
    have kZ2 := kZ.far ⟨k6, 0, none⟩ (.int .i64 n) (show w.heap.size ≠ k6 by omega)
    have hO2 := ownRows_setAvoid hO av 0 (.int .i64 n)
    have hc5 := hc4.set (j := 0) (v := .int .i64 n) (show g < k6 by omega)
    have hG2 := grown_new (j := 0) (v := .int .i64 n) hG (show w.heap.size ≤ k6 by omega)
    clear kZ hO hc4 hG
    have r0 := kT2.cell 0 (.int .i64 n) rfl
    have r1 := kT2.cell 1 (.slice o R.length c) rfl
    have z0 := kZ2.cell 0 (.int .i64 0) rfl
    have z1 := kZ2.cell 1 (.slice none 0 0) rfl
    have f0 := kZ2.free 0
    have f1 := kZ2.free 1
    have k2 : Blk _ w.heap.size #[.int .i64 n, .slice o R.length c] 26 := (kZ2.set 0 (.int .i64 n)).set 1 (.slice o R.length c)
    have q0 := k2.cell 0 (.int .i64 n) rfl
    have q1 := k2.cell 1 (.slice o R.length c) rfl
    go_wp2
    refine bodyPost_ret (v := .agg #[.int .i64 n, .slice o R.length c]) (by simp only [results, Tryz.results94]; simp [go_sem, q0, q1]) rfl ?_
    exact ⟨n, o, c, xs, R, rfl, ((hO2.far_set 0 (.int .i64 n) (Nat.lt_succ_self _)).far_set 1 (.slice o R.length c) (Nat.lt_succ_self _)).based (Nat.le_succ _), ⟨by omega, HLn.out⟩, (hc5.set (j := 0) (v := .int .i64 n) hlt).set (j := 1) (v := .slice o R.length c) hlt, grown_new (j := 1) (v := .slice o R.length c) (grown_new (j := 0) (v := .int .i64 n) hG2 (Nat.le_refl _)) (Nat.le_refl _)⟩
  · by_cases e1 : q = 1
    · have hL := fun T => lit_ints w3 #[.int .i64 (-2), .int .i64 (-1), .int .i64 40, .int .i64 41] [-2, -1, 40, 41] (by simp) (fun k hk => by match k, hk with | 0, _ => rfl | 1, _ => rfl | 2, _ => rfl | 3, _ => rfl) T
      have hxl := hO.len
      have n1 := kT.cell 1 (.slice o R.length c) rfl
      have n1d := kT.drew.cell 1 (.slice o R.length c) rfl
      have n1a := fun cs T => (kT.alloc (.cells cs T)).cell 1 (.slice o R.length c) rfl
      have n1b := fun cs T => (kT.alloc (.cells cs T)).drew.cell 1 (.slice o R.length c) rfl
      go_wp2_with fail
      go_region_law (first
        | ((try go_simp); refine (c_l1PickInt g _ 4 [-2, -1, 40, 41] (by simp) (by simp) _ (by first | exact cur_alloc hc3 _ | exact (cur_alloc hc3 _).keep (Below.refl _ _).drew | exact cur_alloc (hc3.keep (Below.refl _ _).drew) _) (by first | exact hL _ | exact (hL _).keep (Below.refl _ _).drew) (fun a e => by injection e with e; subst e; simp; omega)).mono ?_; rintro e w5 ⟨x, rfl, _, hc5, hg⟩; have hg3 : w3.grownBy w5 (some g) := (by first | exact grown_alloc hg | exact grown_alloc (drew_grown hg) | exact drew_grown (grown_alloc hg)); have kT5 := kT.cur hg3 (show k6 ≠ g by omega); have kZ5 := kZ.cur hg3 (show w.heap.size ≠ g by omega); have hO5 := hO.cur hg3 (show g < w.heap.size + 1 by omega); have hG5 := grown_trans hG hg3; have q5 := kT5.cell 1 (.slice o R.length c) rfl; have q5a := fun cs T => (kT5.alloc (.cells cs T)).cell 1 (.slice o R.length c) rfl; have q5b := fun cs T cs' T' => ((kT5.alloc (.cells cs T)).alloc (.cells cs' T')).cell 1 (.slice o R.length c) rfl; clear hg hg3)
        | (have hba := (Below.refl w5.heap.size w5).alloc (Nat.le_refl _) (.cells #[.int .i64 1, .int .i64 x] 3); have hI6 : OwnI (w5.alloc (.cells #[.int .i64 1, .int .i64 x] 3)) w5.heap.size (.slice (some ⟨w5.heap.size, 0, none⟩) 2 2) [1, x] := World.ownsRow_lit w5 #[.int .i64 1, .int .i64 x] 2 (Nat.le_refl _) (by decide) rfl; have ap6 := OwnRows.fresh hO5 hI6; have kT6 := kT5.keep hba; have kZ6 := kZ5.keep hba; have hO6 := hO5.keep hba; have hc6 := hc5.keep hba; have hG6 := grown_trans hG5 (grown_of_below hba _); have hk5 := kT5.lt; refine step_append_held _ (by rfl) _ _ 24 (by rfl) (w.heap.size + 1) 50 j0 (.slice none 0 0) 1 24 Tryz.underlying24 hj hy0 hy1 hy2 rfl (by decide) (.slice o R.length c) _ _ (by rfl) (World.ownsRow.alloc hO6.outer _) _ 1 1 [.slice (some ⟨w5.heap.size, 0, none⟩) 2 2] (by rfl) rfl (World.news_of_block (cs := #[.slice (some ⟨w5.heap.size, 0, none⟩) 2 2]) (t := 50) (fr := (0, 0)) (heap_new_at (by simp))) (by intro u hu; simp at hu; subst hu; rfl) (by unfold maxLen; omega) (by omega) (by simp; omega) ?_; intro v7 w7 hown _ hgrow hfr; obtain ⟨⟨o7, c7, rfl⟩, s7, t7, kT7, hO7, av7, hc7, hG7, hoth, hblk⟩ := tab_snocG (nC := 2) (C := [1, x]) rfl hO6 (hI6.based (show w.heap.size + 1 ≤ w5.heap.size by omega)) ap6 kT6 av (fun e9 => by simp [Value.ownBlock] at e9; omega) hc6 hG6 (Nat.le_succ _) (show w.heap.size ≤ k6 by omega) (show g < k6 by omega) hown hgrow hfr; have kZ7 := hblk _ _ _ kZ6 (show w.heap.size ≠ k6 by omega) (fun e => by have := (World.ownsRow.lt hO6.outer _ e).1; omega); clear hown hgrow hfr hblk hoth)
        | fail)
      all_goals
        have HL7 : Hid (∀ j, j < (R ++ [[1, x]]).length → (row (R ++ [[1, x]]) j).length ≤ 5) := fun j hj => by
          by_cases h : j < R.length
          · rw [row_append_lt h]; exact HLn.out j h
          · have : j = R.length := by simp at hj; omega
            rw [this, row_append_end]; simp
        have hO8 := hO7
        clear hO7 s7 t7 q5 q5a q5b n1 n1d n1a n1b hL
        generalize w7.setCell ⟨k6, 1, none⟩ (.slice o7 (R.length + 1) c7) = w8 at *
        have r0 := kT7.cell 0 (.int .i64 N) rfl
        have r1 := kT7.cell 1 (.slice o7 (R.length + 1) c7) rfl
        have z0 := kZ7.cell 0 (.int .i64 0) rfl
        have z1 := kZ7.cell 1 (.slice none 0 0) rfl
        have f0 := kZ7.free 0
        have f1 := kZ7.free 1
        have k2 : Blk _ w.heap.size #[.int .i64 N, .slice o7 (R.length + 1) c7] 26 := (kZ7.set 0 (.int .i64 N)).set 1 (.slice o7 (R.length + 1) c7)
        have q0 := k2.cell 0 (.int .i64 N) rfl
        have q1 := k2.cell 1 (.slice o7 (R.length + 1) c7) rfl
        go_wp2
        refine bodyPost_ret (v := .agg #[.int .i64 N, .slice o7 (R.length + 1) c7]) (by simp only [results, Tryz.results94]; simp [go_sem, q0, q1]) rfl ?_
        have hl7 : R.length + 1 = (R ++ [[1, x]]).length := by simp
        refine ⟨N, o7, c7, xs ++ [.slice (some ⟨w5.heap.size, 0, none⟩) 2 2], R ++ [[1, x]], by rw [← hl7], ?_, ⟨by simp; omega, HL7.out⟩, (hc7.set (j := 0) (v := .int .i64 N) hlt).set (j := 1) (v := .slice o7 (R.length + 1) c7) hlt, grown_new (j := 1) (v := .slice o7 (R.length + 1) c7) (grown_new (j := 0) (v := .int .i64 N) hG7 (Nat.le_refl _)) (Nat.le_refl _)⟩
        rw [← hl7]
        exact ((hO8.far_set 0 (.int .i64 N) (Nat.lt_succ_self _)).far_set 1 (.slice o7 (R.length + 1) c7) (Nat.lt_succ_self _)).based (Nat.le_succ _)
    · skip
      have r0 := kT.cell 0 (.int .i64 N) rfl
      have r1 := kT.cell 1 (.slice o R.length c) rfl
      have z0 := kZ.cell 0 (.int .i64 0) rfl
      have z1 := kZ.cell 1 (.slice none 0 0) rfl
      have f0 := kZ.free 0
      have f1 := kZ.free 1
      have k2 : Blk _ w.heap.size #[.int .i64 N, .slice o R.length c] 26 := (kZ.set 0 (.int .i64 N)).set 1 (.slice o R.length c)
      have q0 := k2.cell 0 (.int .i64 N) rfl
      have q1 := k2.cell 1 (.slice o R.length c) rfl
      go_wp2
      refine bodyPost_ret (v := .agg #[.int .i64 N, .slice o R.length c]) (by simp only [results, Tryz.results94]; simp [go_sem, q0, q1]) rfl ?_
      exact ⟨N, o, c, xs, R, rfl, ((hO.far_set 0 (.int .i64 N) (Nat.lt_succ_self _)).far_set 1 (.slice o R.length c) (Nat.lt_succ_self _)).based (Nat.le_succ _), ⟨by omega, HLn.out⟩, (hc3.set (j := 0) (v := .int .i64 N) hlt).set (j := 1) (v := .slice o R.length c) hlt, grown_new (j := 1) (v := .slice o R.length c) (grown_new (j := 0) (v := .int .i64 N) hG (Nat.le_refl _)) (Nat.le_refl _)⟩
set_option maxHeartbeats 3200000 in
theorem c_l4Draw (g : Nat) (w : World) (hc : Cur w g) :
    Calls Tryz.prog 59 #[.pointer (some ⟨g, 0, none⟩)] w fun e w' => ∃ (n m : Int) (o : Option Addr) (c : Nat) (xs : List Value) (R : List (List Int)), e = .returned (.tuple #[.agg #[.int .i64 n, .slice o R.length c], .int .i64 m]) ∧ OwnRows w' w.heap.size (.slice o R.length c) xs R ∧ (R.length ≤ 13 ∧ ∀ j, j < R.length → (row R j).length ≤ 5) ∧ Cur w' g ∧ w.grownBy w' (some g) := by
  obtain ⟨i0, hi, hz0, hz1, hz2⟩ := info_parts info_int
  obtain ⟨j0, hj, hy0, hy1, hy2⟩ := info_parts info_ints
  have hlt := hc.lt
  have kZ := Blk.new w #[.int .i64 0, .slice none 0 0] 26
  have hG := grown_of_below ((Below.refl w.heap.size w).alloc (Nat.le_refl _) (.cells #[.int .i64 0, .slice none 0 0] 26)) (some g)
  replace hc := cur_alloc hc (.cells #[.int .i64 0, .slice none 0 0] 26)
  go_enter Tryz.func59, Tryz.ntmps59
  go_wp2_with fail
  refine (c_l3Table g _ hc).mono ?_
  rintro e w1 ⟨N, o, c, xs, R, rfl, hO, ⟨_, _, hRl, hlen⟩, hc1, hg⟩
  have HLn : Hid (∀ j, j < R.length → (row R j).length ≤ 5) := hlen
  clear hlen
  simp only [World.size_alloc] at hO
  replace kZ := kZ.cur hg (show w.heap.size ≠ g by omega)
  replace hG := grown_trans hG hg
  clear hc hg
  have kT := Blk.new w1 #[.int .i64 N, .slice o R.length c] 26
  have hz := kZ.lt
  have av : Avoid w1.heap.size (.slice o R.length c) xs := fun y hy e => by
    have := hO.old (Nat.le_refl _) y hy _ e
    omega
  have hba := (Below.refl w1.heap.size w1).alloc (Nat.le_refl _) (.cells #[.int .i64 N, .slice o R.length c] 26)
  replace kZ := kZ.keep hba
  replace hO := hO.keep hba
  replace hc1 := hc1.keep hba
  replace hG := grown_trans hG (grown_of_below hba _)
  clear hba
  go_upto_region 2 with fail
  generalize w1.alloc (.cells #[.int .i64 N, .slice o R.length c] 26) = w2 at *
  obtain ⟨k6, hk6⟩ : ∃ k, w1.heap.size = k := ⟨_, rfl⟩
  rw [hk6] at kT hz av
  simp only [hk6]
  clear hk6
  go_wp2_with fail
  refine (c_l1Once g 14 (by omega) _ hc1).mono ?_
  rintro e w3 ⟨t, rfl, hc3, hg⟩
  replace kZ := kZ.cur hg (show w.heap.size ≠ g by omega)
  replace kT := kT.cur hg (show k6 ≠ g by omega)
  replace hO := hO.cur hg (show g < w.heap.size + 1 by omega)
  replace hG := grown_trans hG hg
  clear hc1 hg
  have hk6 := kT.lt
  cases t
  · skip
    go_wp2_with fail
    refine (c_l1Below g 2 (by omega) _ hc3).mono ?_
    rintro e w5 ⟨m, rfl, _, _, _, hc5, hg⟩
    replace kZ := kZ.cur hg (show w.heap.size ≠ g by omega)
    replace kT := kT.cur hg (show k6 ≠ g by omega)
    replace hO := hO.cur hg (show g < w.heap.size + 1 by omega)
    replace hG := grown_trans hG hg
    clear hc3 hg
    go_wp2_with fail
    refine (c_l1Once g 20 (by omega) _ hc5).mono ?_
    rintro e w6 ⟨t, rfl, hc6, hg⟩
    replace kZ := kZ.cur hg (show w.heap.size ≠ g by omega)
    replace kT := kT.cur hg (show k6 ≠ g by omega)
    replace hO := hO.cur hg (show g < w.heap.size + 1 by omega)
    replace hG := grown_trans hG hg
    clear hc5 hg
    cases t
    · skip
      have r0 := kT.cell 0 (.int .i64 N) rfl
      have r1 := kT.cell 1 (.slice o R.length c) rfl
      have z0 := kZ.cell 0 (.int .i64 0) rfl
      have z1 := kZ.cell 1 (.slice none 0 0) rfl
      have f0 := kZ.free 0
      have f1 := kZ.free 1
      have k2 : Blk _ w.heap.size #[.int .i64 N, .slice o R.length c] 26 := (kZ.set 0 (.int .i64 N)).set 1 (.slice o R.length c)
      have q0 := k2.cell 0 (.int .i64 N) rfl
      have q1 := k2.cell 1 (.slice o R.length c) rfl
      go_wp2
      refine bodyPost_ret (v := .tuple #[.agg #[.int .i64 N, .slice o R.length c], .int .i64 m]) (by simp only [results, Tryz.results59]; simp [go_sem, q0, q1]) rfl ?_
      exact ⟨N, m, o, c, xs, R, rfl, ((hO.far_set 0 (.int .i64 N) (Nat.lt_succ_self _)).far_set 1 (.slice o R.length c) (Nat.lt_succ_self _)).based (Nat.le_succ _), ⟨by omega, HLn.out⟩, (hc6.set (j := 0) (v := .int .i64 N) hlt).set (j := 1) (v := .slice o R.length c) hlt, grown_new (j := 1) (v := .slice o R.length c) (grown_new (j := 0) (v := .int .i64 N) hG (Nat.le_refl _)) (Nat.le_refl _)⟩
    · have hL := fun T => lit_ints w6 #[.int .i64 (-1), .int .i64 2] [-1, 2] (by simp) (fun k hk => by match k, hk with | 0, _ => rfl | 1, _ => rfl) T
      have hlt6 := hc6.lt
      go_wp2_with fail
      refine (c_l1PickInt g _ 2 [-1, 2] (by simp) (by simp) _ (cur_alloc hc6 _) (hL _) (fun a e => by injection e with e; subst e; simp; omega)).mono ?_
      rintro e w7 ⟨m2, rfl, _, hc7, hg⟩
      replace hg := grown_alloc hg
      replace kZ := kZ.cur hg (show w.heap.size ≠ g by omega)
      replace kT := kT.cur hg (show k6 ≠ g by omega)
      replace hO := hO.cur hg (show g < w.heap.size + 1 by omega)
      replace hG := grown_trans hG hg
      clear hc6 hg hL
      have r0 := kT.cell 0 (.int .i64 N) rfl
      have r1 := kT.cell 1 (.slice o R.length c) rfl
      have z0 := kZ.cell 0 (.int .i64 0) rfl
      have z1 := kZ.cell 1 (.slice none 0 0) rfl
      have f0 := kZ.free 0
      have f1 := kZ.free 1
      have k2 : Blk _ w.heap.size #[.int .i64 N, .slice o R.length c] 26 := (kZ.set 0 (.int .i64 N)).set 1 (.slice o R.length c)
      have q0 := k2.cell 0 (.int .i64 N) rfl
      have q1 := k2.cell 1 (.slice o R.length c) rfl
      go_wp2
      refine bodyPost_ret (v := .tuple #[.agg #[.int .i64 N, .slice o R.length c], .int .i64 m2]) (by simp only [results, Tryz.results59]; simp [go_sem, q0, q1]) rfl ?_
      exact ⟨N, m2, o, c, xs, R, rfl, ((hO.far_set 0 (.int .i64 N) (Nat.lt_succ_self _)).far_set 1 (.slice o R.length c) (Nat.lt_succ_self _)).based (Nat.le_succ _), ⟨by omega, HLn.out⟩, (hc7.set (j := 0) (v := .int .i64 N) hlt).set (j := 1) (v := .slice o R.length c) hlt, grown_new (j := 1) (v := .slice o R.length c) (grown_new (j := 0) (v := .int .i64 N) hG (Nat.le_refl _)) (Nat.le_refl _)⟩
  · go_wp2_with fail
    refine (c_l3Any g _ hc3).mono ?_
    rintro e w4 ⟨n, o2, c2, xs2, R2, rfl, hO2, ⟨hRl2, hlen2⟩, hc4, hg⟩
    have HLn2 : Hid (∀ j, j < R2.length → (row R2 j).length ≤ 5) := hlen2
    clear hlen2
    replace kZ := kZ.cur hg (show w.heap.size ≠ g by omega)
    replace kT := kT.cur hg (show k6 ≠ g by omega)
    replace hG := grown_trans hG hg
    have av2 : Avoid k6 (.slice o2 R2.length c2) xs2 := fun y hy e => by
      rcases hy with rfl | hy
      · have := (World.ownsRow.lt hO2.outer _ e).1; omega
      · have := hO2.lowS (Nat.le_refl _) y hy _ e; omega
    replace hO2 := hO2.based (show w.heap.size + 1 ≤ w3.heap.size by omega)
    clear hc3 hg hO HLn hRl av
    have n0 := kT.cell 0 (.int .i64 N) rfl
    have n1 := kT.cell 1 (.slice o R.length c) rfl
    have g0 := kT.free 0
    have g1 := kT.free 1
    have kT2 : Blk _ k6 #[.int .i64 n, .slice o2 R2.length c2] 26 := (kT.set 0 (.int .i64 n)).set 1 (.slice o2 R2.length c2)
    have kZ2 := (kZ.far ⟨k6, 0, none⟩ (.int .i64 n) (show w.heap.size ≠ k6 by omega)).far ⟨k6, 1, none⟩ (.slice o2 R2.length c2) (show w.heap.size ≠ k6 by omega)
    have hO3 := ownRows_setAvoid (ownRows_setAvoid hO2 av2 0 (.int .i64 n)) av2 1 (.slice o2 R2.length c2)
    have hc5 := (hc4.set (j := 0) (v := .int .i64 n) (show g < k6 by omega)).set (j := 1) (v := .slice o2 R2.length c2) (show g < k6 by omega)
    have hG2 := grown_new (j := 1) (v := .slice o2 R2.length c2) (grown_new (j := 0) (v := .int .i64 n) hG (show w.heap.size ≤ k6 by omega)) (show w.heap.size ≤ k6 by omega)
    clear kZ hO2 hc4 hG
    have kT1 := kT
    clear kT
    have kT := kT2
    have kZ := kZ2
    have hO := hO3
    have hc3 := hc5
    have hG := hG2
    clear kT2 kZ2 hO3 hc5 hG2
    go_wp2_with fail
    skip
    refine (c_l1Below g 2 (by omega) _ hc3).mono ?_
    rintro e w5 ⟨m, rfl, _, _, _, hc5, hg⟩
    replace kZ := kZ.cur hg (show w.heap.size ≠ g by omega)
    replace kT := kT.cur hg (show k6 ≠ g by omega)
    replace hO := hO.cur hg (show g < w.heap.size + 1 by omega)
    replace hG := grown_trans hG hg
    clear hc3 hg
    go_wp2_with fail
    refine (c_l1Once g 20 (by omega) _ hc5).mono ?_
    rintro e w6 ⟨t, rfl, hc6, hg⟩
    replace kZ := kZ.cur hg (show w.heap.size ≠ g by omega)
    replace kT := kT.cur hg (show k6 ≠ g by omega)
    replace hO := hO.cur hg (show g < w.heap.size + 1 by omega)
    replace hG := grown_trans hG hg
    clear hc5 hg
    cases t
    · skip
      have r0 := kT.cell 0 (.int .i64 n) rfl
      have r1 := kT.cell 1 (.slice o2 R2.length c2) rfl
      have z0 := kZ.cell 0 (.int .i64 0) rfl
      have z1 := kZ.cell 1 (.slice none 0 0) rfl
      have f0 := kZ.free 0
      have f1 := kZ.free 1
      have k2 : Blk _ w.heap.size #[.int .i64 n, .slice o2 R2.length c2] 26 := (kZ.set 0 (.int .i64 n)).set 1 (.slice o2 R2.length c2)
      have q0 := k2.cell 0 (.int .i64 n) rfl
      have q1 := k2.cell 1 (.slice o2 R2.length c2) rfl
      go_wp2
      refine bodyPost_ret (v := .tuple #[.agg #[.int .i64 n, .slice o2 R2.length c2], .int .i64 m]) (by simp only [results, Tryz.results59]; simp [go_sem, q0, q1]) rfl ?_
      exact ⟨n, m, o2, c2, xs2, R2, rfl, ((hO.far_set 0 (.int .i64 n) (Nat.lt_succ_self _)).far_set 1 (.slice o2 R2.length c2) (Nat.lt_succ_self _)).based (Nat.le_succ _), ⟨by omega, HLn2.out⟩, (hc6.set (j := 0) (v := .int .i64 n) hlt).set (j := 1) (v := .slice o2 R2.length c2) hlt, grown_new (j := 1) (v := .slice o2 R2.length c2) (grown_new (j := 0) (v := .int .i64 n) hG (Nat.le_refl _)) (Nat.le_refl _)⟩
    · have hL := fun T => lit_ints w6 #[.int .i64 (-1), .int .i64 2] [-1, 2] (by simp) (fun k hk => by match k, hk with | 0, _ => rfl | 1, _ => rfl) T
      have hlt6 := hc6.lt
      go_wp2_with fail
      refine (c_l1PickInt g _ 2 [-1, 2] (by simp) (by simp) _ (cur_alloc hc6 _) (hL _) (fun a e => by injection e with e; subst e; simp; omega)).mono ?_
      rintro e w7 ⟨m2, rfl, _, hc7, hg⟩
      replace hg := grown_alloc hg
      replace kZ := kZ.cur hg (show w.heap.size ≠ g by omega)
      replace kT := kT.cur hg (show k6 ≠ g by omega)
      replace hO := hO.cur hg (show g < w.heap.size + 1 by omega)
      replace hG := grown_trans hG hg
      clear hc6 hg hL
      have r0 := kT.cell 0 (.int .i64 n) rfl
      have r1 := kT.cell 1 (.slice o2 R2.length c2) rfl
      have z0 := kZ.cell 0 (.int .i64 0) rfl
      have z1 := kZ.cell 1 (.slice none 0 0) rfl
      have f0 := kZ.free 0
      have f1 := kZ.free 1
      have k2 : Blk _ w.heap.size #[.int .i64 n, .slice o2 R2.length c2] 26 := (kZ.set 0 (.int .i64 n)).set 1 (.slice o2 R2.length c2)
      have q0 := k2.cell 0 (.int .i64 n) rfl
      have q1 := k2.cell 1 (.slice o2 R2.length c2) rfl
      go_wp2
      refine bodyPost_ret (v := .tuple #[.agg #[.int .i64 n, .slice o2 R2.length c2], .int .i64 m2]) (by simp only [results, Tryz.results59]; simp [go_sem, q0, q1]) rfl ?_
      exact ⟨n, m2, o2, c2, xs2, R2, rfl, ((hO.far_set 0 (.int .i64 n) (Nat.lt_succ_self _)).far_set 1 (.slice o2 R2.length c2) (Nat.lt_succ_self _)).based (Nat.le_succ _), ⟨by omega, HLn2.out⟩, (hc7.set (j := 0) (v := .int .i64 n) hlt).set (j := 1) (v := .slice o2 R2.length c2) hlt, grown_new (j := 1) (v := .slice o2 R2.length c2) (grown_new (j := 0) (v := .int .i64 n) hG (Nat.le_refl _)) (Nat.le_refl _)⟩
end Go.Proofs.YtcenndlbhgfdfaaGreat
namespace Go.Proofs.YtcenndlbhgfdfaaGreat
open Go.RowKit
set_option linter.unusedVariables false
set_option maxRecDepth 100000

def DrawsTab (f : FuncId) (oa : Option Addr) (mc cap : Nat) (w : World) : Prop :=
  Calls Tryz.prog f #[.slice oa mc cap] w fun e w' => ∃ (n m : Int) (o : Option Addr) (c : Nat) (xs : List Value) (R : List (List Int)), e = .returned (.tuple #[.agg #[.int .i64 n, .slice o R.length c], .int .i64 m]) ∧ OwnRows w' w.heap.size (.slice o R.length c) xs R ∧ (R.length ≤ 13 ∧ ∀ j, j < R.length → (row R j).length ≤ 5) ∧ Below w.heap.size w w'
def DrawsTabX (f : FuncId) (oa : Option Addr) (mc cap : Nat) (w : World) : Prop :=
  Calls Tryz.prog f #[.slice oa mc cap] w fun e w' => ∃ (n m : Int) (o : Option Addr) (c : Nat) (xs : List Value) (R : List (List Int)) (x : Int), e = .returned (.tuple #[.agg #[.int .i64 n, .slice o R.length c], .int .i64 m, .int .i64 x]) ∧ OwnRows w' w.heap.size (.slice o R.length c) xs R ∧ (R.length ≤ 13 ∧ ∀ j, j < R.length → (row R j).length ≤ 5) ∧ Below w.heap.size w w'
end Go.Proofs.YtcenndlbhgfdfaaGreat
namespace Go.Proofs.YtcenndlbhgfdfaaGreat
open Go.RowKit
set_option linter.unusedVariables false
set_option maxRecDepth 100000

theorem run_sm2 {A : Sr} {b : Int} (h : Sm 161 A) : Sm 161 (runSr A b) := by
  by_cases hh : isSrF A = true
  · obtain ⟨N, K, e1, e2, h1, h5, hK, ht, hm, hrep⟩ := isSr_of hh
    obtain ⟨_, i2, i3, i4⟩ := rep_ok (R := A.R) (m := A.m) h5 h1 _ hK
    rw [hrep] at i2 i3 i4
    have := count_le h5
    have h160 : Sm 160 A := ⟨h.1, h.2.1, Nat.le_trans i2 (by omega), i3, Int.le_trans i4 (by omega)⟩
    exact (run_sm h160).up
  · unfold runSr
    rw [if_neg hh]
    exact h
def DrawsSr (f : FuncId) (oa : Option Addr) (mc cap : Nat) (w : World) : Prop :=
  Calls Tryz.prog f #[.slice oa mc cap] w fun e w' => ∃ (A : Sr) (o : Option Addr) (c : Nat) (fo : Option Addr) (fc : Nat) (xs : List Value), e = .returned (.agg #[.int .i64 A.n, .slice o A.R.length c, .int .i64 A.m, .int .i64 A.a, .slice fo A.F.length fc, .int .i64 A.t]) ∧ OwnRows w' w.heap.size (.slice o A.R.length c) xs A.R ∧ OwnD w' w.heap.size (.slice fo A.F.length fc) A.F ∧ Sm 161 A ∧ ApartR (.slice o A.R.length c) xs (.slice fo A.F.length fc) ∧ Below w.heap.size w w'
def DrawsSrX (f : FuncId) (oa : Option Addr) (mc cap : Nat) (w : World) : Prop :=
  Calls Tryz.prog f #[.slice oa mc cap] w fun e w' => ∃ (A : Sr) (o : Option Addr) (c : Nat) (fo : Option Addr) (fc : Nat) (xs : List Value) (x : Int), e = .returned (.tuple #[.agg #[.int .i64 A.n, .slice o A.R.length c, .int .i64 A.m, .int .i64 A.a, .slice fo A.F.length fc, .int .i64 A.t], .int .i64 x]) ∧ OwnRows w' w.heap.size (.slice o A.R.length c) xs A.R ∧ OwnD w' w.heap.size (.slice fo A.F.length fc) A.F ∧ Sm 161 A ∧ ApartR (.slice o A.R.length c) xs (.slice fo A.F.length fc) ∧ Below w.heap.size w w'
set_option maxHeartbeats 3200000 in
theorem c_DrawNewSearch (oa) (mc cap : Nat) (hm : mc ≤ 1048576) (w : World) (hB : BytesAt w oa mc) : DrawsTab 21 oa mc cap w := by
  unfold DrawsTab
  have hb := (Below.refl w.heap.size w).alloc (Nat.le_refl _) (.cells #[.int .i64 0, .slice none 0 0] 26)
  have kZ := Blk.new w #[.int .i64 0, .slice none 0 0] 26
  go_enter Tryz.func21, Tryz.ntmps21
  go_wp2_with fail
  refine (c_l1New oa mc cap hm _ (hB.keep hb)).mono ?_
  rintro e w1 ⟨rfl, hc1, hbn⟩
  replace kZ := kZ.keep hbn
  replace hb := bel_to hb hbn
  simp only [World.size_alloc] at hc1 ⊢
  clear hbn
  have hz := kZ.lt
  go_wp2_with fail
  refine (c_l4Draw _ _ hc1).mono ?_
  rintro e w2 ⟨n, m, o, c, xs, R, rfl, hO, ⟨hRl, hlen⟩, hc2, hg⟩
  have HLn : Hid (∀ j, j < R.length → (row R j).length ≤ 5) := hlen
  clear hlen
  have hlt1 := hc1.lt
  have hsz := hg.size
  replace hb := below_cur hb hg (Nat.le_succ _)
  replace kZ := kZ.cur hg (show w.heap.size ≠ w.heap.size + 1 by omega)
  clear hc1 hg
  have kT := Blk.new w2 #[.int .i64 n, .slice o R.length c] 26
  have hba := (Below.refl w2.heap.size w2).alloc (Nat.le_refl _) (.cells #[.int .i64 n, .slice o R.length c] 26)
  replace kZ := kZ.keep hba
  replace hO := hO.keep hba
  replace hc2 := hc2.keep hba
  replace hb := bel_to hb hba
  clear hba
  have n0 := kT.cell 0 (.int .i64 n) rfl
  have n1 := kT.cell 1 (.slice o R.length c) rfl
  have z0 := kZ.cell 0 (.int .i64 0) rfl
  have z1 := kZ.cell 1 (.slice none 0 0) rfl
  have f0 := kZ.free 0
  have f1 := kZ.free 1
  have k2 : Blk _ w.heap.size #[.int .i64 n, .slice o R.length c] 26 := (kZ.set 0 (.int .i64 n)).set 1 (.slice o R.length c)
  have q0 := k2.cell 0 (.int .i64 n) rfl
  have q1 := k2.cell 1 (.slice o R.length c) rfl
  go_wp2
  refine bodyPost_ret (v := .tuple #[.agg #[.int .i64 n, .slice o R.length c], .int .i64 m]) (by simp only [results, Tryz.results21]; simp [go_sem, q0, q1]) rfl ?_
  exact ⟨n, m, o, c, xs, R, rfl, ((hO.far_set 0 (.int .i64 n) (show w.heap.size < w1.heap.size by omega)).far_set 1 (.slice o R.length c) (show w.heap.size < w1.heap.size by omega)).based (by omega), ⟨hRl, HLn.out⟩, bel_set2 hb (Nat.le_refl _) _ _⟩
set_option maxHeartbeats 6400000 in
theorem c_DrawRunSearch (oa) (mc cap : Nat) (hm : mc ≤ 1048576) (w : World) (hB : BytesAt w oa mc) : DrawsSrX 6 oa mc cap w := by
  unfold DrawsSrX
  have hb := (Below.refl w.heap.size w).alloc (Nat.le_refl _) (.cells #[.int .i64 0, .slice none 0 0, .int .i64 0, .int .i64 0, .slice none 0 0, .int .i64 0] 29)
  have kZ := Blk.new w #[.int .i64 0, .slice none 0 0, .int .i64 0, .int .i64 0, .slice none 0 0, .int .i64 0] 29
  go_enter Tryz.func6, Tryz.ntmps6
  go_wp2_with fail
  refine (c_l1New oa mc cap hm _ (hB.keep hb)).mono ?_
  rintro e w1 ⟨rfl, hc1, hbn⟩
  replace kZ := kZ.keep hbn
  replace hb := bel_to hb hbn
  simp only [World.size_alloc] at hc1 ⊢
  clear hbn
  have hz := kZ.lt
  go_wp2_with fail
  refine (c_l8Search _ _ hc1).mono ?_
  rintro e w2 ⟨A, o, c, fo, fc, xs, rfl, hO, hF, hsm, hap, hc2, hg⟩
  have hlt1 := hc1.lt
  have hsz := hg.size
  replace hb := below_cur hb hg (Nat.le_succ _)
  replace kZ := kZ.cur hg (show w.heap.size ≠ w.heap.size + 1 by omega)
  clear hc1 hg
  have kT := Blk.new w2 #[.int .i64 A.n, .slice o A.R.length c, .int .i64 A.m, .int .i64 A.a, .slice fo A.F.length fc, .int .i64 A.t] 29
  have hba := (Below.refl w2.heap.size w2).alloc (Nat.le_refl _) (.cells #[.int .i64 A.n, .slice o A.R.length c, .int .i64 A.m, .int .i64 A.a, .slice fo A.F.length fc, .int .i64 A.t] 29)
  replace kZ := kZ.keep hba
  replace hO := hO.keep hba
  replace hF := hF.keep hba
  replace hc2 := hc2.keep hba
  replace hb := bel_to hb hba
  clear hba
  go_upto_region 3 with fail
  generalize w2.alloc (.cells #[.int .i64 A.n, .slice o A.R.length c, .int .i64 A.m, .int .i64 A.a, .slice fo A.F.length fc, .int .i64 A.t] 29) = w3 at *
  obtain ⟨k6, hk6⟩ : ∃ k, w2.heap.size = k := ⟨_, rfl⟩
  rw [hk6] at kT hsz
  simp only [hk6]
  clear hk6
  have hL := fun (w9 : World) T => lit_ints w9 #[.int .i64 (-1), .int .i64 (0), .int .i64 (1), .int .i64 (5), .int .i64 (200)] [-1, 0, 1, 5, 200] (by simp) (fun k hk => by match k, hk with | 0, _ => rfl | 1, _ => rfl | 2, _ => rfl | 3, _ => rfl | 4, _ => rfl) T
  have n0 := kT.cell 0 (.int .i64 A.n) rfl
  have n1 := kT.cell 1 (.slice o A.R.length c) rfl
  have n2 := kT.cell 2 (.int .i64 A.m) rfl
  have n3 := kT.cell 3 (.int .i64 A.a) rfl
  have n4 := kT.cell 4 (.slice fo A.F.length fc) rfl
  have n5 := kT.cell 5 (.int .i64 A.t) rfl
  have n0d := kT.drew.cell 0 (.int .i64 A.n) rfl
  have n0a := fun ob => (kT.alloc ob).cell 0 (.int .i64 A.n) rfl
  have n0b := fun ob => (kT.alloc ob).drew.cell 0 (.int .i64 A.n) rfl
  have n1d := kT.drew.cell 1 (.slice o A.R.length c) rfl
  have n1a := fun ob => (kT.alloc ob).cell 1 (.slice o A.R.length c) rfl
  have n1b := fun ob => (kT.alloc ob).drew.cell 1 (.slice o A.R.length c) rfl
  have n2d := kT.drew.cell 2 (.int .i64 A.m) rfl
  have n2a := fun ob => (kT.alloc ob).cell 2 (.int .i64 A.m) rfl
  have n2b := fun ob => (kT.alloc ob).drew.cell 2 (.int .i64 A.m) rfl
  have n3d := kT.drew.cell 3 (.int .i64 A.a) rfl
  have n3a := fun ob => (kT.alloc ob).cell 3 (.int .i64 A.a) rfl
  have n3b := fun ob => (kT.alloc ob).drew.cell 3 (.int .i64 A.a) rfl
  have n4d := kT.drew.cell 4 (.slice fo A.F.length fc) rfl
  have n4a := fun ob => (kT.alloc ob).cell 4 (.slice fo A.F.length fc) rfl
  have n4b := fun ob => (kT.alloc ob).drew.cell 4 (.slice fo A.F.length fc) rfl
  have n5d := kT.drew.cell 5 (.int .i64 A.t) rfl
  have n5a := fun ob => (kT.alloc ob).cell 5 (.int .i64 A.t) rfl
  have n5b := fun ob => (kT.alloc ob).drew.cell 5 (.int .i64 A.t) rfl
  have hl3 := hc2.lt
  go_wp2_with fail
  go_region_law (first
    | ((try go_simp); refine (c_l1PickInt _ _ 5 [-1, 0, 1, 5, 200] (by simp) (by simp) _ (by first | exact cur_alloc hc2 _ | exact (cur_alloc hc2 _).keep (Below.refl _ _).drew | exact cur_alloc (hc2.keep (Below.refl _ _).drew) _) (by first | exact hL _ _ | exact (hL _ _).keep (Below.refl _ _).drew) (fun a e => by injection e with e; subst e; simp; omega)).mono ?_; rintro e w9 ⟨x, rfl, _, hc9, hg⟩; have hg3 : w3.grownBy w9 (some (w.heap.size + 1)) := (by first | exact grown_alloc hg | exact grown_alloc (drew_grown hg) | exact drew_grown (grown_alloc hg)); have kT9 := kT.cur hg3 (show k6 ≠ w.heap.size + 1 by omega); have kZ9 := kZ.cur hg3 (show w.heap.size ≠ w.heap.size + 1 by omega); have hO9 := hO.cur hg3 (show w.heap.size + 1 < w1.heap.size by omega); have hF9 := hF.cur hg3 (show w.heap.size + 1 < w1.heap.size by omega); have hb9 := below_cur hb hg3 (by omega); have p0 := kT9.cell 0 (.int .i64 A.n) rfl; have z0 := kZ9.cell 0 _ rfl; have f0 := kZ9.free 0; have p1 := kT9.cell 1 (.slice o A.R.length c) rfl; have z1 := kZ9.cell 1 _ rfl; have f1 := kZ9.free 1; have p2 := kT9.cell 2 (.int .i64 A.m) rfl; have z2 := kZ9.cell 2 _ rfl; have f2 := kZ9.free 2; have p3 := kT9.cell 3 (.int .i64 A.a) rfl; have z3 := kZ9.cell 3 _ rfl; have f3 := kZ9.free 3; have p4 := kT9.cell 4 (.slice fo A.F.length fc) rfl; have z4 := kZ9.cell 4 _ rfl; have f4 := kZ9.free 4; have p5 := kT9.cell 5 (.int .i64 A.t) rfl; have z5 := kZ9.cell 5 _ rfl; have f5 := kZ9.free 5; clear hg hg3)
    | fail)
  all_goals
    clear n0 n1 n2 n3 n4 n5 n0d n1d n2d n3d n4d n5d n0a n1a n2a n3a n4a n5a n0b n1b n2b n3b n4b n5b hL
    go_wp2_with fail
    have k2 := kZ9.set6 (.int .i64 A.n) (.slice o A.R.length c) (.int .i64 A.m) (.int .i64 A.a) (.slice fo A.F.length fc) (.int .i64 A.t)
    unfold set6 at k2
    have q0 := k2.cell 0 (.int .i64 A.n) rfl
    have q1 := k2.cell 1 (.slice o A.R.length c) rfl
    have q2 := k2.cell 2 (.int .i64 A.m) rfl
    have q3 := k2.cell 3 (.int .i64 A.a) rfl
    have q4 := k2.cell 4 (.slice fo A.F.length fc) rfl
    have q5 := k2.cell 5 (.int .i64 A.t) rfl
    have hB9 : w.heap.size < w1.heap.size := by omega
    have hO9 := (hO9.far6 hB9 (.int .i64 A.n) (.slice o A.R.length c) (.int .i64 A.m) (.int .i64 A.a) (.slice fo A.F.length fc) (.int .i64 A.t)).based (by omega : w.heap.size ≤ w1.heap.size)
    have hF9 := (OwnD.set6 (k := w.heap.size) hF9 (fun e => by have := (World.ownsRow.lt hF9 _ e).1; omega) (.int .i64 A.n) (.slice o A.R.length c) (.int .i64 A.m) (.int .i64 A.a) (.slice fo A.F.length fc) (.int .i64 A.t)).based (by omega : w.heap.size ≤ w1.heap.size)
    have hb9 := bel_set6 hb9 (Nat.le_refl w.heap.size) (.int .i64 A.n) (.slice o A.R.length c) (.int .i64 A.m) (.int .i64 A.a) (.slice fo A.F.length fc) (.int .i64 A.t)
    unfold set6 at hO9 hF9 hb9
    refine bodyPost_ret (v := .tuple #[.agg #[.int .i64 A.n, .slice o A.R.length c, .int .i64 A.m, .int .i64 A.a, .slice fo A.F.length fc, .int .i64 A.t], .int .i64 x]) (by simp only [results, Tryz.results6]; simp [go_sem, q0, q1, q2, q3, q4, q5]) rfl ?_
    exact ⟨A, o, c, fo, fc, _, x, rfl, hO9, hF9, hsm, hap, hb9⟩
set_option maxHeartbeats 6400000 in
theorem c_DrawIsSearched (oa) (mc cap : Nat) (hm : mc ≤ 1048576) (w : World) (hB : BytesAt w oa mc) : DrawsSr 20 oa mc cap w := by
  unfold DrawsSr
  have hb := (Below.refl w.heap.size w).alloc (Nat.le_refl _) (.cells #[.int .i64 0, .slice none 0 0, .int .i64 0, .int .i64 0, .slice none 0 0, .int .i64 0] 29)
  have kZ := Blk.new w #[.int .i64 0, .slice none 0 0, .int .i64 0, .int .i64 0, .slice none 0 0, .int .i64 0] 29
  go_enter Tryz.func20, Tryz.ntmps20
  go_wp2_with fail
  refine (c_l1New oa mc cap hm _ (hB.keep hb)).mono ?_
  rintro e w1 ⟨rfl, hc1, hbn⟩
  replace kZ := kZ.keep hbn
  replace hb := bel_to hb hbn
  simp only [World.size_alloc] at hc1 ⊢
  clear hbn
  have hz := kZ.lt
  go_wp2_with fail
  refine (c_l8Search _ _ hc1).mono ?_
  rintro e w2 ⟨A, o, c, fo, fc, xs, rfl, hO, hF, hsm, hap, hc2, hg⟩
  have hlt1 := hc1.lt
  have hsz := hg.size
  replace hb := below_cur hb hg (Nat.le_succ _)
  replace kZ := kZ.cur hg (show w.heap.size ≠ w.heap.size + 1 by omega)
  clear hc1 hg
  have kT := Blk.new w2 #[.int .i64 A.n, .slice o A.R.length c, .int .i64 A.m, .int .i64 A.a, .slice fo A.F.length fc, .int .i64 A.t] 29
  have hba := (Below.refl w2.heap.size w2).alloc (Nat.le_refl _) (.cells #[.int .i64 A.n, .slice o A.R.length c, .int .i64 A.m, .int .i64 A.a, .slice fo A.F.length fc, .int .i64 A.t] 29)
  replace kZ := kZ.keep hba
  replace hO := hO.keep hba
  replace hF := hF.keep hba
  replace hc2 := hc2.keep hba
  replace hb := bel_to hb hba
  clear hba
  go_upto_region 3 with fail
  generalize w2.alloc (.cells #[.int .i64 A.n, .slice o A.R.length c, .int .i64 A.m, .int .i64 A.a, .slice fo A.F.length fc, .int .i64 A.t] 29) = w3 at *
  obtain ⟨k6, hk6⟩ : ∃ k, w2.heap.size = k := ⟨_, rfl⟩
  rw [hk6] at kT hsz
  simp only [hk6]
  clear hk6
  go_wp2_with fail
  refine (c_l1Once _ 2 (by omega) _ hc2).mono ?_
  rintro e w4 ⟨t, rfl, hc4, hg⟩
  replace kT := kT.cur hg (show k6 ≠ w.heap.size + 1 by omega)
  replace kZ := kZ.cur hg (show w.heap.size ≠ w.heap.size + 1 by omega)
  replace hO := hO.cur hg (show w.heap.size + 1 < w1.heap.size by omega)
  replace hF := hF.cur hg (show w.heap.size + 1 < w1.heap.size by omega)
  replace hb := below_cur hb hg (by omega)
  clear hc2 hg
  have n0 := kT.cell 0 (.int .i64 A.n) rfl
  have n1 := kT.cell 1 (.slice o A.R.length c) rfl
  have n2 := kT.cell 2 (.int .i64 A.m) rfl
  have n3 := kT.cell 3 (.int .i64 A.a) rfl
  have n4 := kT.cell 4 (.slice fo A.F.length fc) rfl
  have n5 := kT.cell 5 (.int .i64 A.t) rfl
  cases t
  · skip
    have z0 := kZ.cell 0 _ rfl
    have z1 := kZ.cell 1 _ rfl
    have z2 := kZ.cell 2 _ rfl
    have z3 := kZ.cell 3 _ rfl
    have z4 := kZ.cell 4 _ rfl
    have z5 := kZ.cell 5 _ rfl
    have f0 := kZ.free 0
    have f1 := kZ.free 1
    have f2 := kZ.free 2
    have f3 := kZ.free 3
    have f4 := kZ.free 4
    have f5 := kZ.free 5
    go_wp2_with fail
    have k2 := kZ.set6 (.int .i64 A.n) (.slice o A.R.length c) (.int .i64 A.m) (.int .i64 A.a) (.slice fo A.F.length fc) (.int .i64 A.t)
    unfold set6 at k2
    have q0 := k2.cell 0 (.int .i64 A.n) rfl
    have q1 := k2.cell 1 (.slice o A.R.length c) rfl
    have q2 := k2.cell 2 (.int .i64 A.m) rfl
    have q3 := k2.cell 3 (.int .i64 A.a) rfl
    have q4 := k2.cell 4 (.slice fo A.F.length fc) rfl
    have q5 := k2.cell 5 (.int .i64 A.t) rfl
    have hB9 : w.heap.size < w1.heap.size := by omega
    have hO9 := (hO.far6 hB9 (.int .i64 A.n) (.slice o A.R.length c) (.int .i64 A.m) (.int .i64 A.a) (.slice fo A.F.length fc) (.int .i64 A.t)).based (by omega : w.heap.size ≤ w1.heap.size)
    have hF9 := (OwnD.set6 (k := w.heap.size) hF (fun e => by have := (World.ownsRow.lt hF _ e).1; omega) (.int .i64 A.n) (.slice o A.R.length c) (.int .i64 A.m) (.int .i64 A.a) (.slice fo A.F.length fc) (.int .i64 A.t)).based (by omega : w.heap.size ≤ w1.heap.size)
    have hb9 := bel_set6 hb (Nat.le_refl w.heap.size) (.int .i64 A.n) (.slice o A.R.length c) (.int .i64 A.m) (.int .i64 A.a) (.slice fo A.F.length fc) (.int .i64 A.t)
    unfold set6 at hO9 hF9 hb9
    refine bodyPost_ret (v := .agg #[.int .i64 A.n, .slice o A.R.length c, .int .i64 A.m, .int .i64 A.a, .slice fo A.F.length fc, .int .i64 A.t]) (by simp only [results, Tryz.results20]; simp [go_sem, q0, q1, q2, q3, q4, q5]) rfl ?_
    exact ⟨A, o, c, fo, fc, _, rfl, hO9, hF9, hsm, hap, hb9⟩
  · have hRR : A.R.length ≤ Room := by have := hsm.1; unfold Room; omega
    have HRr : Hid (∀ j, j < A.R.length → (row A.R j).length ≤ Room) := fun j hj => Nat.le_trans (hsm.2.1 j hj) (by unfold Room; omega)
    have hFR : A.F.length ≤ Room := by have := hsm.2.2.1; unfold Room; omega
    have HRS : Hid (∀ (w : World), RowsC w o A.R → DepsAt w fo A.F → (fo = none → fc = 0) → SrRes 9 #[.agg #[.int .i64 A.n, .slice o A.R.length c, .int .i64 A.m, .int .i64 A.a, .slice fo A.F.length fc, .int .i64 A.t], .int .i64 200] w (runSr A 200) id) := fun w h1 h2 h3 => c_specRunSearch A o fo c fc 200 w h1 ⟨Nat.le_trans hsm.1 (by omega), fun j hj => Nat.le_trans (hsm.2.1 j hj) (by omega)⟩ h2 (Nat.le_trans hsm.2.2.1 (by omega)) h3
    go_wp2_with fail
    have H := HRS.out _ (hO.readC hRR HRr.out) (hF.deps rfl hFR) hF.nilcap
    unfold SrRes at H
    refine H.mono ?_
    clear H
    rintro e w5 ⟨o5, c5, fo5, fc5, xs5, rfl, hO5, hF5, hap5, hbn⟩
    replace kZ := kZ.keep hbn
    replace hb := bel_to hb hbn
    have hz4 := kT.lt
    clear hbn hO hF n0 n1 n2 n3 n4 n5 HRS
    have hsm5 := run_sm2 (b := 200) hsm
    generalize runSr A 200 = A5 at *
    have kZ5 := kZ
    have hb5 := hb
    have z0 := kZ5.cell 0 _ rfl
    have f0 := kZ5.free 0
    have z1 := kZ5.cell 1 _ rfl
    have f1 := kZ5.free 1
    have z2 := kZ5.cell 2 _ rfl
    have f2 := kZ5.free 2
    have z3 := kZ5.cell 3 _ rfl
    have f3 := kZ5.free 3
    have z4 := kZ5.cell 4 _ rfl
    have f4 := kZ5.free 4
    have z5 := kZ5.cell 5 _ rfl
    have f5 := kZ5.free 5
    have hl4 := hc4.lt
    go_wp2_with fail
    have k2 := kZ5.set6 (.int .i64 A5.n) (.slice o5 A5.R.length c5) (.int .i64 A5.m) (.int .i64 A5.a) (.slice fo5 A5.F.length fc5) (.int .i64 A5.t)
    unfold set6 at k2
    have q0 := k2.cell 0 (.int .i64 A5.n) rfl
    have q1 := k2.cell 1 (.slice o5 A5.R.length c5) rfl
    have q2 := k2.cell 2 (.int .i64 A5.m) rfl
    have q3 := k2.cell 3 (.int .i64 A5.a) rfl
    have q4 := k2.cell 4 (.slice fo5 A5.F.length fc5) rfl
    have q5 := k2.cell 5 (.int .i64 A5.t) rfl
    have hB9 : w.heap.size < w4.heap.size := by omega
    have hO9 := (hO5.far6 hB9 (.int .i64 A5.n) (.slice o5 A5.R.length c5) (.int .i64 A5.m) (.int .i64 A5.a) (.slice fo5 A5.F.length fc5) (.int .i64 A5.t)).based (by omega : w.heap.size ≤ w4.heap.size)
    have hF9 := (OwnD.set6 (k := w.heap.size) hF5 (fun e => by have := (World.ownsRow.lt hF5 _ e).1; omega) (.int .i64 A5.n) (.slice o5 A5.R.length c5) (.int .i64 A5.m) (.int .i64 A5.a) (.slice fo5 A5.F.length fc5) (.int .i64 A5.t)).based (by omega : w.heap.size ≤ w4.heap.size)
    have hb9 := bel_set6 hb5 (Nat.le_refl w.heap.size) (.int .i64 A5.n) (.slice o5 A5.R.length c5) (.int .i64 A5.m) (.int .i64 A5.a) (.slice fo5 A5.F.length fc5) (.int .i64 A5.t)
    unfold set6 at hO9 hF9 hb9
    refine bodyPost_ret (v := .agg #[.int .i64 A5.n, .slice o5 A5.R.length c5, .int .i64 A5.m, .int .i64 A5.a, .slice fo5 A5.F.length fc5, .int .i64 A5.t]) (by simp only [results, Tryz.results20]; simp [go_sem, q0, q1, q2, q3, q4, q5]) rfl ?_
    exact ⟨A5, o5, c5, fo5, fc5, _, rfl, hO9, hF9, hsm5, hap5, hb9⟩
end Go.Proofs.YtcenndlbhgfdfaaGreat
namespace Go.Proofs.YtcenndlbhgfdfaaGreat
open Go.RowKit
set_option linter.unusedVariables false
set_option maxRecDepth 100000

/-- x is maximal in L -/
def maxB (L : List Int) (x : Int) : Bool := L.all fun y => (x == y) || !ins x y
def maxF (L : List Int) : List Int := if setsF L && decide (L.length ≤ 100) then flt (fun x => inB' L x && maxB L x) 32 else []
theorem maxF_sets {L : List Int} (h : setsF L = true) (hl : L.length ≤ 100) : maxF L = flt (fun x => inB' L x && maxB L x) 32 := by
  unfold maxF; rw [h]; simp [hl]
theorem maxF_filter {L : List Int} (h : setsF L = true) (hl : L.length ≤ 100) : maxF L = (distinctF L).filter (maxB L) := by
  rw [maxF_sets h hl, distinctF_flt (setsF_mem h), flt_filter]
theorem maxF_len (L : List Int) : (maxF L).length ≤ 32 := by
  unfold maxF
  split
  · exact flt_le _ _
  · simp
theorem maxF_st {L : List Int} : ∀ x ∈ maxF L, St x := by
  unfold maxF
  split
  · intro x hx; have := (flt_mem.1 hx).1; exact ⟨by omega, by omega⟩
  · intro x hx; cases hx
theorem maxB_same (L : List Int) (h : ∀ x ∈ L, St x) (x : Int) (hx : St x) : (L.all fun y => (y == x) || !(bits BinOp.and .i64 x y == x)) = maxB L x := by
  unfold maxB
  rw [Bool.eq_iff_iff, List.all_eq_true, List.all_eq_true]
  have e : ∀ y ∈ L, ((y == x) || !(bits BinOp.and .i64 x y == x)) = ((x == y) || !ins x y) := fun y hy => by
    obtain ⟨n, hn, rfl⟩ := st_nat hx; obtain ⟨m, hm, rfl⟩ := st_nat (h y hy)
    have h' : ∀ n < 32, ∀ m < 32, ((((m : Nat) : Int) == ((n : Nat) : Int)) || !(bits BinOp.and .i64 ((n : Nat) : Int) ((m : Nat) : Int) == ((n : Nat) : Int))) = ((((n : Nat) : Int) == ((m : Nat) : Int)) || !ins (n : Nat) (m : Nat)) := by decide +kernel
    exact h' n hn m hm
  exact ⟨fun H y hy => by rw [← e y hy]; exact H y hy, fun H y hy => by rw [e y hy]; exact H y hy⟩
set_option maxHeartbeats 1600000 in
theorem c_MaximalSets (oa) (cap : Nat) (L : List Int) (w : World) (hL : IntsAt w oa L) (hnil : oa = none → cap = 0) :
    Calls Tryz.prog 68 #[.slice oa L.length cap] w fun e w' => ∃ v, e = .returned v ∧ OwnI w' w.heap.size v (maxF L) ∧ Below w.heap.size w w' := by
  obtain ⟨i0, hi, hz0, hz1, hz2⟩ := info_parts info_int
  have hn : L.length ≤ 1073741824 := hL.len
  have hb := (Below.refl w.heap.size w).alloc (Nat.le_refl _) (.cells #[] 3)
  have hI := OwnI.empty w w.heap.size (Nat.le_refl _)
  cases hs : (setsF L && decide (L.length ≤ 100))
  · have HM : Hid (maxF L = []) := by show maxF L = []; unfold maxF; rw [hs]; rfl
    go_enter Tryz.func68, Tryz.ntmps68
    go_wp2_with (first | (go_at_call 100; refine Calls.mono (Ans.eqb (c_areSets _ _ _ _ (hL.keep hb)) hs) ?_; rintro e w1 ⟨rfl, hbn⟩; replace hI := hI.keep hbn; replace hb := bel_to (w := w) (by first | exact hb | exact hb.alloc hb.size _ | exact (hb.alloc hb.size _).alloc (Nat.le_trans hb.size (by simp)) _ | exact hb.setCell (by simp [hb.size]) _) hbn; clear hbn))
    go_ret
    exact ⟨_, rfl, by rw [HM.out]; exact hI, hb⟩
  · have hs' : setsF L = true ∧ L.length ≤ 100 := by simpa using hs
    have HM : Hid (maxF L = (distinctF L).filter (maxB L)) := maxF_filter hs'.1 hs'.2
    have hml : (distinctF L).length ≤ 32 := by rw [distinctF_flt (setsF_mem hs'.1)]; exact flt_le _ _
    go_enter Tryz.func68, Tryz.ntmps68
    go_wp2_with (first | (go_at_call 100; refine Calls.mono (Ans.eqb (c_areSets _ _ _ _ (hL.keep hb)) hs) ?_; rintro e w1 ⟨rfl, hbn⟩; replace hI := hI.keep hbn; replace hb := bel_to (w := w) (by first | exact hb | exact hb.alloc hb.size _ | exact (hb.alloc hb.size _).alloc (Nat.le_trans hb.size (by simp)) _ | exact hb.setCell (by simp [hb.size]) _) hbn; clear hbn))
    have old := hI
    refine (c_distinct _ _ _ _ (hL.keep hb) hnil).mono ?_
    rintro e w1 ⟨v1, rfl, hM, hbn⟩
    have ap_hM := (apart_old old hM).symm
    replace hI := hI.keep hbn
    replace hM := hM.based hb.size
    replace hb := bel_to hb hbn
    clear old hbn
    generalize distinctF L = M at *
    obtain ⟨o1, c1, rfl⟩ := hM.shape
    go_wp2
    go_loopw [3, 17] (fun v i wr => ∃ k : Nat, i = .int .i64 k ∧ k ≤ M.length ∧ OwnI wr w.heap.size v ((M.take k).filter (maxB L)) ∧ OwnI wr w.heap.size (.slice o1 M.length c1) M ∧ Apart (.slice o1 M.length c1) v ∧ Below w.heap.size w wr) (fun _ i _ => M.length - (intOf i).toNat)
    case atStart => exact ⟨0, rfl, Nat.zero_le _, by simpa using hI, hM, ap_hM, hb⟩
    case round =>
      clear hI hM ap_hM hb
      obtain ⟨k, rfl, hk, hI, hM, ap_hM, hb⟩ := hrel
      by_cases hlt : k < M.length
      · have HS : Hid ((M.take (k + 1)).filter (maxB L) = (M.take k).filter (maxB L) ++ (if maxB L (nth M k) then [nth M k] else [])) := filter_take_succ _ _ _ hlt
        have hfl : ((M.take k).filter (maxB L)).length ≤ 32 := by
          have := List.length_filter_le (maxB L) (M.take k)
          rw [List.length_take] at this
          omega
        obtain ⟨b1, off1, rfl, hbs1, hca⟩ := (hM.ints rfl (by unfold Room; omega)).at_ (by omega)
        have hc1 := hca k hlt
        clear hca
        generalize nth M k = x at *
        generalize (M.take k).filter (maxB L) = F at *
        go_wp2
        go_loopw [6, 23] (fun b i wr => ∃ j : Nat, i = .int .i64 j ∧ j ≤ L.length ∧ b = .bool ((L.take j).all fun y => (x == y) || !ins x y) ∧ OwnI wr w.heap.size u3 F ∧ OwnI wr w.heap.size (.slice (some ⟨b1, off1, none⟩) M.length c1) M ∧ Below w.heap.size w wr) (fun _ i _ => L.length - (intOf i).toNat)
        case atStart => exact ⟨0, rfl, Nat.zero_le _, by simp, hI, hM, hb⟩
        case round =>
          clear hI hM hb hc1
          obtain ⟨j, rfl, hj, rfl, hI, hM, hb⟩ := hrel
          by_cases hlj : j < L.length
          · obtain ⟨b2, off2, rfl, hbs2, hc⟩ := hL.at_ (by omega)
            have hc2 := cell_keep (hc j hlj) hb
            have HT : Hid ((L.take (j + 1)).all (fun y => (x == y) || !ins x y) = ((L.take j).all (fun y => (x == y) || !ins x y) && ((x == nth L j) || !ins x (nth L j)))) := all_take_succ (fun y => (x == y) || !ins x y) L j hlj
            clear hc
            generalize (L.take j).all (fun y => (x == y) || !ins x y) = A at *
            cases A
            · go_wp2
              go_roundw
              case rel => exact ⟨j + 1, by go_num, by omega, by rw [HT.out]; rfl, hI, hM, hb⟩
              case measure => simp [intOf]; omega
            · cases hxy : (x == nth L j)
              · cases hin : ins x (nth L j)
                · go_wp2_with (first | (go_at_call 89; refine Calls.mono (Ans.eqb (c_inside _ _ _) hin) ?_; rintro e w1 ⟨rfl, hbn⟩; replace hI := hI.keep hbn; replace hM := hM.keep hbn; replace hb := bel_to (w := w) (by first | exact hb | exact hb.alloc hb.size _ | exact (hb.alloc hb.size _).alloc (Nat.le_trans hb.size (by simp)) _ | exact hb.setCell (by simp [hb.size]) _) hbn; clear hbn))
                  go_roundw
                  case rel => exact ⟨j + 1, by go_num, by omega, by rw [HT.out, hxy, hin]; rfl, hI, hM, hb⟩
                  case measure => simp [intOf]; omega
                · go_wp2_with (first | (go_at_call 89; refine Calls.mono (Ans.eqb (c_inside _ _ _) hin) ?_; rintro e w1 ⟨rfl, hbn⟩; replace hI := hI.keep hbn; replace hM := hM.keep hbn; replace hb := bel_to (w := w) (by first | exact hb | exact hb.alloc hb.size _ | exact (hb.alloc hb.size _).alloc (Nat.le_trans hb.size (by simp)) _ | exact hb.setCell (by simp [hb.size]) _) hbn; clear hbn))
                  go_roundw
                  case rel => exact ⟨j + 1, by go_num, by omega, by rw [HT.out, hxy, hin]; rfl, hI, hM, hb⟩
                  case measure => simp [intOf]; omega
              · go_wp2
                go_roundw
                case rel => exact ⟨j + 1, by go_num, by omega, by rw [HT.out, hxy]; rfl, hI, hM, hb⟩
                case measure => simp [intOf]; omega
          · have hjj : j = L.length := by omega
            have HA : Hid ((L.take j).all (fun y => (x == y) || !ins x y) = maxB L x) := by
              show (L.take j).all (fun y => (x == y) || !ins x y) = maxB L x
              rw [hjj, List.take_length]; rfl
            clear hjj
            generalize (L.take j).all (fun y => (x == y) || !ins x y) = A at *
            cases A
            · go_wp2
              go_roundw
              case rel => exact ⟨k + 1, by go_num, by omega, by rw [HS.out, ← HA.out]; simpa using hI, hM, ap_hM, hb⟩
              case measure => simp [intOf]; omega
            · go_wp2_with (first | (at_builtin; refine wpList_append_fresh rfl _ _ 50 rfl w.heap.size 3 i0 (.int .i64 0) 1 8 Tryz.underlying50 hi hz0 hz1 hz2 rfl (by decide) _ _ _ rfl (World.ownsRow.alloc hI _) _ 1 1 [.int .i64 (x)] rfl rfl (by intro j u hj; match j, hj with | 0, hj => simp at hj; subst hj; simp [Addr.add]) (by intro u hu; simp at hu; subst hu; rfl) (by unfold maxLen; omega) (by omega) (by have := hb.size; simp; omega) ?_; intro v' w1 hown hgrow hfr; replace hb := (hb.alloc hb.size _).grown hgrow (by have := hb.size; simp; omega) (fun g hg => (World.ownsRow.lt hI g hg).1); obtain ⟨hM, ap_hM⟩ := OwnI.past hM hgrow ap_hM hfr; replace hI := OwnI.snoc hown; clear hown hgrow hfr) | fail)
              go_roundw
              case rel => exact ⟨k + 1, by go_num, by omega, by rw [HS.out, ← HA.out]; exact hI, hM, ap_hM, hb⟩
              case measure => simp [intOf]; omega
      · have hkk : k = M.length := by omega
        have HF : Hid ((M.take k).filter (maxB L) = M.filter (maxB L)) := by
          show (M.take k).filter (maxB L) = M.filter (maxB L)
          rw [hkk, List.take_length]
        clear hkk
        go_wp2
        go_ret
        exact ⟨_, rfl, by rw [HM.out, ← HF.out]; exact hI, hb⟩

theorem max_step {L : List Int} {k : Nat} (hk : k < L.length) (hs : St (nth L k)) :
    flt (fun y => inB' (L.take (k + 1)) y && maxB L y) 32 = (if maxB L (nth L k) then putF (flt (fun y => inB' (L.take k) y && maxB L y) 32) (nth L k) else flt (fun y => inB' (L.take k) y && maxB L y) 32) := by
  have e : ∀ y, inB' (L.take (k + 1)) y = (inB' (L.take k) y || y == nth L k) := fun y => by
    unfold inB'
    rw [List.take_add_one, nth_eq hk]
    simp [Bool.decide_or]
    rfl
  split
  · next h =>
    rw [putF_flt _ hs]
    congr 1
    funext y
    rw [e]
    cases hy : (y == nth L k)
    · simp
    · have : y = nth L k := by simpa using hy
      rw [this, h]; simp
  · next h =>
    congr 1
    funext y
    rw [e]
    cases hy : (y == nth L k)
    · simp
    · have : y = nth L k := by simpa using hy
      rw [this]
      simp only [Bool.not_eq_true] at h
      rw [h]; simp
set_option maxHeartbeats 1600000 in
theorem c_specMaximalSets (oa) (cap : Nat) (L : List Int) (w : World) (hL : IntsAt w oa L) :
    Calls Tryz.prog 73 #[.slice oa L.length cap] w fun e w' => ∃ v, e = .returned v ∧ OwnI w' w.heap.size v (maxF L) ∧ Below w.heap.size w w' := by
  obtain ⟨i0, hi, hz0, hz1, hz2⟩ := info_parts info_int
  have hn : L.length ≤ 1073741824 := hL.len
  have hb := (Below.refl w.heap.size w).alloc (Nat.le_refl _) (.cells #[] 3)
  have hI := OwnI.empty w w.heap.size (Nat.le_refl _)
  cases hs : (setsF L && decide (L.length ≤ 100))
  · have HM : Hid (maxF L = []) := by show maxF L = []; unfold maxF; rw [hs]; rfl
    go_enter Tryz.func73, Tryz.ntmps73
    go_wp2
    go_loopw [3, 4] (fun v i wr => i = .int .i64 0 ∧ OwnI wr w.heap.size v [] ∧ Below w.heap.size w wr) (fun _ _ _ => 0)
    case atStart => exact ⟨rfl, hI, hb⟩
    case round =>
      clear hI hb
      obtain ⟨rfl, hI, hb⟩ := hrel
      by_cases h0 : 0 < L.length
      · go_wp2_with (first | (go_at_call 104; refine Calls.mono (Ans.eqb (c_l4Sets _ _ _ _ (hL.keep hb)) hs) ?_; rintro e w1 ⟨rfl, hbn⟩; replace hI := hI.keep hbn; replace hb := bel_to (w := w) (by first | exact hb | exact hb.alloc hb.size _ | exact (hb.alloc hb.size _).alloc (Nat.le_trans hb.size (by simp)) _ | exact hb.setCell (by simp [hb.size]) _) hbn; clear hbn))
        go_ret
        exact ⟨_, rfl, by rw [HM.out]; exact hI, hb⟩
      · go_wp2
        go_ret
        exact ⟨_, rfl, by rw [HM.out]; exact hI, hb⟩
  · have hs' : setsF L = true ∧ L.length ≤ 100 := by simpa using hs
    have hsm := setsF_mem hs'.1
    have HM : Hid (maxF L = flt (fun x => inB' L x && maxB L x) 32) := maxF_sets hs'.1 hs'.2
    go_enter Tryz.func73, Tryz.ntmps73
    go_wp2
    go_loopw [3, 4] (fun v i wr => ∃ k : Nat, i = .int .i64 k ∧ k ≤ L.length ∧ OwnI wr w.heap.size v (flt (fun y => inB' (L.take k) y && maxB L y) 32) ∧ Below w.heap.size w wr) (fun _ i _ => L.length - (intOf i).toNat)
    case atStart =>
      have e : flt (fun y => inB' (L.take 0) y && maxB L y) 32 = [] := by unfold flt inB'; simp
      exact ⟨0, rfl, Nat.zero_le _, by rw [e]; exact hI, hb⟩
    case round =>
      clear hI hb
      obtain ⟨k, rfl, hk, hI, hb⟩ := hrel
      by_cases hlt : k < L.length
      · have hst : St (nth L k) := hsm _ (List.mem_iff_getElem?.2 ⟨k, nth_eq hlt⟩)
        have HS := (show Hid _ from max_step hlt hst)
        have hfl : (flt (fun y => inB' (L.take k) y && maxB L y) 32).length ≤ 32 := flt_le _ _
        obtain ⟨b1, off1, rfl, hbs1, hc1⟩ := hL.at_ (by omega)
        have hd1 := hc1 k hlt
        have HC : Hid (∀ k, k < L.length → w.cell? ⟨b1, off1 + k, none⟩ = some (.int .i64 (nth L k))) := hc1
        clear hc1
        generalize flt (fun y => inB' (L.take k) y && maxB L y) 32 = F at *
        generalize hx : nth L k = x at *
        go_wp2_with (first | (go_at_call 104; refine Calls.mono (Ans.eqb (c_l4Sets _ _ _ _ (hL.keep hb)) hs) ?_; rintro e w1 ⟨rfl, hbn⟩; replace hI := hI.keep hbn; replace hb := bel_to (w := w) (by first | exact hb | exact hb.alloc hb.size _ | exact (hb.alloc hb.size _).alloc (Nat.le_trans hb.size (by simp)) _ | exact hb.setCell (by simp [hb.size]) _) hbn; clear hbn))
        go_loopw [5, 6] (fun b i wr => ∃ j : Nat, i = .int .i64 j ∧ j ≤ L.length ∧ b = .bool ((L.take j).all fun y => (y == x) || !(bits BinOp.and .i64 x y == x)) ∧ OwnI wr w.heap.size u3 F ∧ Below w.heap.size w wr) (fun _ i _ => L.length - (intOf i).toNat)
        case atStart => exact ⟨0, rfl, Nat.zero_le _, by simp, hI, hb⟩
        case round =>
          clear hI hb
          obtain ⟨j, rfl, hj, rfl, hI, hb⟩ := hrel
          have hc2 := cell_keep hd1 hb
          by_cases hlj : j < L.length
          · have hc3 := cell_keep (HC.out j hlj) hb
            have HT : Hid ((L.take (j + 1)).all (fun y => (y == x) || !(bits BinOp.and .i64 x y == x)) = ((L.take j).all (fun y => (y == x) || !(bits BinOp.and .i64 x y == x)) && ((nth L j == x) || !(bits BinOp.and .i64 x (nth L j) == x)))) := all_take_succ (fun y => (y == x) || !(bits BinOp.and .i64 x y == x)) L j hlj
            generalize hy : nth L j = y at *
            generalize (L.take j).all (fun y => (y == x) || !(bits BinOp.and .i64 x y == x)) = A at *
            cases A
            · go_wp2_with fail
              (refine wp_region_after (by kernel_rfl) (by kernel_rfl) ?_; have q_hc2 := fun (x : After _) => cell_keep hc2 x.bel; have q_hc3 := fun (x : After _) => cell_keep hc3 x.bel; (repeat (go_big_quiet_step (fail))); clear q_hc2; clear q_hc3; refine wpQuiet_nil ?_; rintro _ ⟨⟨w1, hbn⟩, rfl⟩; (try simp only [After.w]); replace hc2 := cell_keep hc2 hbn; replace hc3 := cell_keep hc3 hbn; replace hI := hI.keep hbn; replace hb := bel_to (w := w) (by first | exact hb | exact hb.alloc hb.size _ | exact (hb.alloc hb.size _).alloc (Nat.le_trans hb.size (by simp)) _ | exact hb.setCell (by simp [hb.size]) _) hbn; clear hbn)
              go_wp2
              go_roundw
              case rel => exact ⟨j + 1, by go_num, by omega, by rw [HT.out]; rfl, hI, hb⟩
              case measure => simp [intOf]; omega
            · cases hxy : (y == x)
              · cases hin : (bits BinOp.and .i64 x y == x)
                · have hin2 : (bits BinOp.and .i64 x y != x) = true := by rw [bneI, hin]; rfl
                  go_wp2_with fail
                  (refine wp_region_after (by kernel_rfl) (by kernel_rfl) ?_; have q_hc2 := fun (x : After _) => cell_keep hc2 x.bel; have q_hc3 := fun (x : After _) => cell_keep hc3 x.bel; (repeat (go_big_quiet_step (fail))); clear q_hc2; clear q_hc3; refine wpQuiet_nil ?_; rintro _ ⟨⟨w1, hbn⟩, rfl⟩; (try simp only [After.w]); replace hc2 := cell_keep hc2 hbn; replace hc3 := cell_keep hc3 hbn; replace hI := hI.keep hbn; replace hb := bel_to (w := w) (by first | exact hb | exact hb.alloc hb.size _ | exact (hb.alloc hb.size _).alloc (Nat.le_trans hb.size (by simp)) _ | exact hb.setCell (by simp [hb.size]) _) hbn; clear hbn)
                  go_wp2
                  go_roundw
                  case rel => exact ⟨j + 1, by go_num, by omega, by rw [HT.out, hxy, hin]; rfl, hI, hb⟩
                  case measure => simp [intOf]; omega
                · have hin2 : (bits BinOp.and .i64 x y != x) = false := by rw [bneI, hin]; rfl
                  go_wp2_with fail
                  (refine wp_region_after (by kernel_rfl) (by kernel_rfl) ?_; have q_hc2 := fun (x : After _) => cell_keep hc2 x.bel; have q_hc3 := fun (x : After _) => cell_keep hc3 x.bel; (repeat (go_big_quiet_step (fail))); clear q_hc2; clear q_hc3; refine wpQuiet_nil ?_; rintro _ ⟨⟨w1, hbn⟩, rfl⟩; (try simp only [After.w]); replace hc2 := cell_keep hc2 hbn; replace hc3 := cell_keep hc3 hbn; replace hI := hI.keep hbn; replace hb := bel_to (w := w) (by first | exact hb | exact hb.alloc hb.size _ | exact (hb.alloc hb.size _).alloc (Nat.le_trans hb.size (by simp)) _ | exact hb.setCell (by simp [hb.size]) _) hbn; clear hbn)
                  go_wp2
                  go_roundw
                  case rel => exact ⟨j + 1, by go_num, by omega, by rw [HT.out, hxy, hin]; rfl, hI, hb⟩
                  case measure => simp [intOf]; omega
              · go_wp2_with fail
                (refine wp_region_after (by kernel_rfl) (by kernel_rfl) ?_; have q_hc2 := fun (x : After _) => cell_keep hc2 x.bel; have q_hc3 := fun (x : After _) => cell_keep hc3 x.bel; (repeat (go_big_quiet_step (fail))); clear q_hc2; clear q_hc3; refine wpQuiet_nil ?_; rintro _ ⟨⟨w1, hbn⟩, rfl⟩; (try simp only [After.w]); replace hc2 := cell_keep hc2 hbn; replace hc3 := cell_keep hc3 hbn; replace hI := hI.keep hbn; replace hb := bel_to (w := w) (by first | exact hb | exact hb.alloc hb.size _ | exact (hb.alloc hb.size _).alloc (Nat.le_trans hb.size (by simp)) _ | exact hb.setCell (by simp [hb.size]) _) hbn; clear hbn)
                go_wp2
                go_roundw
                case rel => exact ⟨j + 1, by go_num, by omega, by rw [HT.out, hxy]; rfl, hI, hb⟩
                case measure => simp [intOf]; omega
          · have hjj : j = L.length := by omega
            have HA : Hid ((L.take j).all (fun y => (y == x) || !(bits BinOp.and .i64 x y == x)) = maxB L x) := by
              show (L.take j).all (fun y => (y == x) || !(bits BinOp.and .i64 x y == x)) = maxB L x
              rw [hjj, List.take_length]; exact maxB_same L hsm x hst
            clear hjj
            generalize (L.take j).all (fun y => (y == x) || !(bits BinOp.and .i64 x y == x)) = A at *
            cases A
            · go_wp2
              go_roundw
              case rel => exact ⟨k + 1, by go_num, by omega, by rw [HS.out, ← HA.out]; simpa using hI, hb⟩
              case measure => simp [intOf]; omega
            · obtain ⟨oF, cF, rfl⟩ := hI.shape
              go_wp2_with (first | (go_at_call 105; refine (c_l4Put _ _ _ _ _ _ (by omega) hI hb.size).mono ?_; rintro e w1 ⟨v1, rfl, hI1, hbn⟩; replace hb := bel_to hb hbn; replace hI := hI1; clear hI1 hbn) | fail)
              go_roundw
              case rel => exact ⟨k + 1, by go_num, by omega, by rw [HS.out, ← HA.out]; exact hI, hb⟩
              case measure => simp [intOf]; omega
      · have hkk : k = L.length := by omega
        have HF : Hid (flt (fun y => inB' (L.take k) y && maxB L y) 32 = flt (fun y => inB' L y && maxB L y) 32) := by
          show flt (fun y => inB' (L.take k) y && maxB L y) 32 = flt (fun y => inB' L y && maxB L y) 32
          rw [hkk, List.take_length]
        clear hkk
        go_wp2
        go_ret
        exact ⟨_, rfl, by rw [HM.out, ← HF.out]; exact hI, hb⟩
end Go.Proofs.YtcenndlbhgfdfaaGreat
namespace Go.Proofs.YtcenndlbhgfdfaaGreat
open Go.RowKit
set_option linter.unusedVariables false
set_option maxRecDepth 100000

/-- x is the set in which two rows agree, the second of them before place i; or the second is i and the first before place j. -/
def agP (R : List (List Int)) (m : Int) (i j : Nat) (x : Int) : Prop := (∃ b, b < i ∧ ∃ a, a < b ∧ agreeF m (row R a) (row R b) = x) ∨ ∃ a, a < j ∧ agreeF m (row R a) (row R i) = x
/-- the same, first rows before place i; or the first is i and the second behind it and before place j -/
def agQ (R : List (List Int)) (m : Int) (i j : Nat) (x : Int) : Prop := (∃ a, a < i ∧ ∃ b, b < R.length ∧ a < b ∧ agreeF m (row R a) (row R b) = x) ∨ ∃ b, b < j ∧ i < b ∧ agreeF m (row R i) (row R b) = x
def agPB (R : List (List Int)) (m : Int) (i j : Nat) (x : Int) : Bool := ((List.range i).any fun b => (List.range b).any fun a => agreeF m (row R a) (row R b) == x) || (List.range j).any fun a => agreeF m (row R a) (row R i) == x
def agQB (R : List (List Int)) (m : Int) (i j : Nat) (x : Int) : Bool := ((List.range i).any fun a => (List.range R.length).any fun b => decide (a < b) && (agreeF m (row R a) (row R b) == x)) || (List.range j).any fun b => decide (i < b) && (agreeF m (row R i) (row R b) == x)
theorem agPB_iff {R : List (List Int)} {m : Int} {i j : Nat} {x : Int} : agPB R m i j x = true ↔ agP R m i j x := by
  unfold agPB agP
  simp [List.any_eq_true]
theorem agQB_iff {R : List (List Int)} {m : Int} {i j : Nat} {x : Int} : agQB R m i j x = true ↔ agQ R m i j x := by
  unfold agQB agQ
  simp [List.any_eq_true]
def agreeSetsF (n : Int) (R : List (List Int)) (m : Int) : List Int := if isTabF n R && modeF m then flt (agPB R m R.length 0) 32 else []
theorem eqCell_comm (m a b : Int) : eqCellF m a b = eqCellF m b a := by
  unfold eqCellF
  by_cases h : a = b
  · subst h; rfl
  · have h1 : (a == b) = false := by simpa using h
    have h2 : (b == a) = false := by simpa using (fun e : b = a => h e.symm)
    rw [h1, h2]; simp
theorem agree_comm {m : Int} {A B : List Int} (h : A.length = B.length) : agreeF m A B = agreeF m B A := by
  unfold agreeF
  rw [h]
  congr 1
  funext x c
  unfold agreeStep
  rw [eqCell_comm]
theorem agPB_step (R : List (List Int)) (m : Int) (i j : Nat) (hij : j < i) : (fun x => agPB R m i j x || x == agreeF m (row R j) (row R i)) = agPB R m i (j + 1) := by
  funext x
  rw [Bool.eq_iff_iff, Bool.or_eq_true, agPB_iff, agPB_iff]
  unfold agP
  constructor
  · rintro ((h | ⟨a, ha, e⟩) | e)
    · exact .inl h
    · exact .inr ⟨a, by omega, e⟩
    · exact .inr ⟨j, by omega, by simpa using (beq_iff_eq.1 e).symm⟩
  · rintro (h | ⟨a, ha, e⟩)
    · exact .inl (.inl h)
    · by_cases hj : a = j
      · subst hj; exact .inr (by simp [e])
      · exact .inl (.inr ⟨a, by omega, e⟩)
theorem agPB_next (R : List (List Int)) (m : Int) (i : Nat) : agPB R m i i = agPB R m (i + 1) 0 := by
  funext x
  rw [Bool.eq_iff_iff, agPB_iff, agPB_iff]
  unfold agP
  constructor
  · rintro (⟨b, hb, h⟩ | ⟨a, ha, e⟩)
    · exact .inl ⟨b, by omega, h⟩
    · exact .inl ⟨i, by omega, a, ha, e⟩
  · rintro (⟨b, hb, a, ha, e⟩ | ⟨a, ha, _⟩)
    · by_cases h : b = i
      · subst h; exact .inr ⟨a, ha, e⟩
      · exact .inl ⟨b, by omega, a, ha, e⟩
    · omega
theorem agQB_step (R : List (List Int)) (m : Int) (i j : Nat) (hij : i < j) : (fun x => agQB R m i j x || x == agreeF m (row R i) (row R j)) = agQB R m i (j + 1) := by
  funext x
  rw [Bool.eq_iff_iff, Bool.or_eq_true, agQB_iff, agQB_iff]
  unfold agQ
  constructor
  · rintro ((h | ⟨b, hb, hib, e⟩) | e)
    · exact .inl h
    · exact .inr ⟨b, by omega, hib, e⟩
    · exact .inr ⟨j, by omega, hij, by simpa using (beq_iff_eq.1 e).symm⟩
  · rintro (h | ⟨b, hb, hib, e⟩)
    · exact .inl (.inl h)
    · by_cases hj : b = j
      · subst hj; exact .inr (by simp [e])
      · exact .inl (.inr ⟨b, by omega, hib, e⟩)
theorem agQB_next (R : List (List Int)) (m : Int) (i : Nat) (hi : i < R.length) : agQB R m i R.length = agQB R m (i + 1) (i + 2) := by
  funext x
  rw [Bool.eq_iff_iff, agQB_iff, agQB_iff]
  unfold agQ
  constructor
  · rintro (⟨a, ha, h⟩ | ⟨b, hb, hib, e⟩)
    · exact .inl ⟨a, by omega, h⟩
    · exact .inl ⟨i, by omega, b, hb, hib, e⟩
  · rintro (⟨a, ha, b, hb, hab, e⟩ | ⟨b, hb, hib, _⟩)
    · by_cases h : a = i
      · subst h; exact .inr ⟨b, hb, hab, e⟩
      · exact .inl ⟨a, by omega, b, hb, hab, e⟩
    · omega
theorem agQB_first (R : List (List Int)) (m : Int) (i : Nat) : agQB R m i (i + 1) = agQB R m i 0 := by
  funext x
  rw [Bool.eq_iff_iff, agQB_iff, agQB_iff]
  unfold agQ
  constructor
  · rintro (h | ⟨b, hb, hib, _⟩)
    · exact .inl h
    · omega
  · rintro (h | ⟨b, hb, _⟩)
    · exact .inl h
    · omega
theorem agQB_all (R : List (List Int)) (m : Int) : agQB R m R.length 0 = agPB R m R.length 0 := by
  funext x
  rw [Bool.eq_iff_iff, agQB_iff, agPB_iff]
  unfold agQ agP
  constructor
  · rintro (⟨a, ha, b, hb, hab, e⟩ | ⟨b, hb, _⟩)
    · exact .inl ⟨b, hb, a, hab, e⟩
    · omega
  · rintro (⟨b, hb, a, ha, e⟩ | ⟨b, hb, _⟩)
    · exact .inl ⟨a, by omega, b, hb, ha, e⟩
    · omega
theorem agQB_none (R : List (List Int)) (m : Int) : flt (agQB R m 0 0) 32 = [] := by
  have : agQB R m 0 0 = fun _ => false := by
    funext x
    rw [Bool.eq_iff_iff, agQB_iff]
    unfold agQ
    constructor
    · rintro (⟨a, ha, _⟩ | ⟨b, hb, _⟩) <;> omega
    · intro h; cases h
  rw [this]; unfold flt; simp
/-- What the list holds, as it grows. -/
def AgL (R : List (List Int)) (m : Int) (i j : Nat) (L : List Int) : Prop := (∀ x, x ∈ L ↔ agP R m i j x) ∧ (∀ x ∈ L, St x) ∧ L.length ≤ 40 * i + j
theorem AgL.none (R : List (List Int)) (m : Int) : AgL R m 0 0 [] := by
  refine ⟨fun x => ⟨fun h => (by cases h), fun h => ?_⟩, fun x hx => (by cases hx), Nat.zero_le _⟩
  unfold agP at h
  rcases h with ⟨b, hb, _⟩ | ⟨a, ha, _⟩
  · omega
  · omega
theorem AgL.distinct {R : List (List Int)} {m : Int} {L : List Int} (h : AgL R m R.length 0 L) : distinctF L = flt (agPB R m R.length 0) 32 := by
  rw [distinctF_flt h.2.1]
  congr 1
  funext x
  rw [Bool.eq_iff_iff, agPB_iff, ← h.1]
  unfold inB'
  simp
theorem AgL.snoc {R : List (List Int)} {m : Int} {i j : Nat} {L : List Int} (h : AgL R m i j L) (hij : j < i) {x : Int} (hx : x = agreeF m (row R j) (row R i)) (hs : St x) : AgL R m i (j + 1) (L ++ [x]) := by
  refine ⟨fun y => ?_, fun y hy => ?_, by simp; have := h.2.2; omega⟩
  · have e := congrFun (agPB_step R m i j hij) y
    rw [List.mem_append, List.mem_singleton, h.1, ← agPB_iff (j := j + 1), ← e, Bool.or_eq_true, agPB_iff, hx]
    simp
  · rcases List.mem_append.1 hy with hy | hy
    · exact h.2.1 y hy
    · simp at hy; subst hy; exact hs
theorem AgL.next {R : List (List Int)} {m : Int} {i : Nat} {L : List Int} (h : AgL R m i i L) (hi : i ≤ 40) : AgL R m (i + 1) 0 L := by
  refine ⟨fun y => ?_, h.2.1, by have := h.2.2; omega⟩
  have e := congrFun (agPB_next R m i) y
  rw [h.1, ← agPB_iff, e, agPB_iff]
theorem agreeSets_st {n : Int} {R : List (List Int)} {m : Int} : ∀ x ∈ agreeSetsF n R m, St x := by
  unfold agreeSetsF
  split
  · intro x hx; have := (flt_mem.1 hx).1; exact ⟨by omega, by omega⟩
  · intro x hx; cases hx
theorem agreeSets_len (n : Int) (R : List (List Int)) (m : Int) : (agreeSetsF n R m).length ≤ 32 := by
  unfold agreeSetsF
  split
  · exact flt_le _ _
  · simp
end Go.Proofs.YtcenndlbhgfdfaaGreat
namespace Go.Proofs.YtcenndlbhgfdfaaGreat
open Go.RowKit
set_option linter.unusedVariables false
set_option maxRecDepth 100000

end Go.Proofs.YtcenndlbhgfdfaaGreat
namespace Go.Proofs.YtcenndlbhgfdfaaGreat
open Go.RowKit
set_option linter.unusedVariables false
set_option maxRecDepth 100000

theorem one_wrap : ∀ j < 5, one ((j : Nat) : Int) = IntKind.i64.wrap (2 ^ j) := by decide +kernel
theorem putF_take {L : List Int} (h : ∀ x ∈ L, St x) {k : Nat} (hk : k < L.length) : flt (inB' (L.take (k + 1))) 32 = putF (flt (inB' (L.take k)) 32) (nth L k) := by
  rw [putF_flt _ (h _ (List.mem_iff_getElem?.2 ⟨k, nth_eq hk⟩))]
  congr 1
  funext y
  unfold inB'
  rw [List.take_add_one, nth_eq hk]
  simp [Bool.decide_or]
  rfl
end Go.Proofs.YtcenndlbhgfdfaaGreat
namespace Go.Proofs.YtcenndlbhgfdfaaGreat
open Go.RowKit
set_option linter.unusedVariables false
set_option maxRecDepth 100000

theorem transF_no {L : List Int} {n : Int} (h : transOk L n = false) : transF L n = [] := by unfold transF; rw [h]; rfl
end Go.Proofs.YtcenndlbhgfdfaaGreat
namespace Go.Proofs.YtcenndlbhgfdfaaGreat
open Go.RowKit
set_option linter.unusedVariables false
set_option maxRecDepth 100000

def edgesF (n : Int) (L : List Int) : List Int := L.map (dif (allM n))
def keysTF (n : Int) (R : List (List Int)) (m : Int) : List Int := if isTabF n R && modeF m then transF (edgesF n (agreeSetsF n R m)) n else []
theorem keysT_len (n : Int) (R : List (List Int)) (m : Int) : (keysTF n R m).length ≤ Room := by
  unfold keysTF
  split
  · exact transF_len _ _
  · simp
theorem edges_succ {n : Int} {L : List Int} {k : Nat} (h : k < L.length) : edgesF n (L.take (k + 1)) = edgesF n (L.take k) ++ [dif (allM n) (nth L k)] := map_take_succ (f := dif (allM n)) h
theorem empty_behind {w' : World} {B j : Nat} {v : Value} (h : w'.cell? ⟨B, j, none⟩ = some v) : OwnI (w'.alloc (.cells #[] 3)) (B + 1) (.slice (some ⟨w'.heap.size, 0, none⟩) 0 0) [] := OwnI.empty _ _ (World.block_lt_of_cell? _ _ h)
end Go.Proofs.YtcenndlbhgfdfaaGreat
namespace Go.Proofs.YtcenndlbhgfdfaaGreat
open Go.RowKit
set_option linter.unusedVariables false
set_option maxRecDepth 100000

def bordP (R : List (List Int)) (m r x : Int) : Bool := !hasc x r && !holdsF R m x r
def bordOk (n : Int) (R : List (List Int)) (m r : Int) : Bool := (isTabF n R && modeF m) && (decide (0 ≤ r) && decide (r < n))
def bordF (n : Int) (R : List (List Int)) (m r : Int) : List Int := if bordOk n R m r then maxF (flt (bordP R m r) (2 ^ n.toNat)) else []
theorem bord_len (n : Int) (R : List (List Int)) (m r : Int) : (bordF n R m r).length ≤ Room := by
  unfold bordF
  split
  · have := maxF_len (flt (bordP R m r) (2 ^ n.toNat)); unfold Room; omega
  · simp
theorem all_same {p : Int → Bool} {L M : List Int} (h : ∀ x, x ∈ L ↔ x ∈ M) : L.all p = M.all p := by
  rw [Bool.eq_iff_iff, List.all_eq_true, List.all_eq_true]
  exact ⟨fun H x hx => H x ((h x).2 hx), fun H x hx => H x ((h x).1 hx)⟩
theorem maxF_same {L M : List Int} (h : ∀ x, x ∈ L ↔ x ∈ M) (hl : L.length ≤ 100) (hm : M.length ≤ 100) : maxF L = maxF M := by
  unfold maxF
  have e1 : setsF L = setsF M := all_same h
  have e2 : (fun x => inB' L x && maxB L x) = fun x => inB' M x && maxB M x := by
    funext x
    unfold inB' maxB
    rw [all_same h]
    congr 1
    rw [decide_eq_decide]
    exact h x
  rw [e1, e2]
  simp [hl, hm]
theorem bord_dep {n : Int} {R : List (List Int)} {m r x : Int} (h : bordOk n R m r = true) (h0 : 0 ≤ x) (hx : x < 2 ^ n.toNat) : askF n R m x r = true ∧ St x := by
  unfold bordOk at h
  simp only [Bool.and_eq_true, decide_eq_true_eq] at h
  obtain ⟨⟨ht, hm⟩, hr0, hrn⟩ := h
  obtain ⟨h1, h5, _, _⟩ := isTab_of ht
  have hp := (pow_wrap (n := n) (by omega) h5).2.1
  refine ⟨?_, ⟨h0, by omega⟩⟩
  unfold askF isDepF isAttr
  rw [ht, hm]
  simp only [Bool.and_eq_true, decide_eq_true_eq, Bool.and_self, Bool.true_and]
  exact ⟨⟨⟨h1, ⟨⟨⟨by omega, h5⟩, h0⟩, hx⟩⟩, hr0⟩, hrn⟩
theorem c_hasColumn (n : Int) (v : Value) (c : Int) (w : World) : Ans Tryz.prog 65 #[.agg #[.int .i64 n, v], .int .i64 c] w (.bool (decide (0 ≤ c) && decide (c < n))) := by
  unfold Ans
  have hb := (Below.refl w.heap.size w).alloc (Nat.le_refl _) (.cells #[.int .i64 n, v] 26)
  by_cases h : 0 ≤ c
  · go_enter Tryz.func65, Tryz.ntmps65
    go_wp2
    go_ret
    exact ⟨ret_bool (by simp [h]), hb⟩
  · go_enter Tryz.func65, Tryz.ntmps65
    go_wp2
    go_ret
    exact ⟨ret_bool (by rw [decide_eq_false (show ¬ (0 ≤ c) by omega)]; rfl), hb⟩

set_option maxHeartbeats 1600000 in
theorem c_ViolatedBorder (n : Int) (oa) (cap : Nat) (R : List (List Int)) (m r : Int) (w : World) (hR : RowsAt w oa R) :
    Calls Tryz.prog 26 #[.agg #[.int .i64 n, .slice oa R.length cap], .int .i64 m, .int .i64 r] w fun e w' => ∃ v, e = .returned v ∧ OwnI w' w.heap.size v (bordF n R m r) ∧ Below w.heap.size w w' := by
  obtain ⟨i0, hi, hz0, hz1, hz2⟩ := info_parts info_int
  have hb := bel2 w (.cells #[.int .i64 n, .slice oa R.length cap] 26) (.cells #[] 3)
  have a0 := two_a w #[.int .i64 n, .slice oa R.length cap] 26 #[] 3 0 _ rfl
  have a1 := two_a w #[.int .i64 n, .slice oa R.length cap] 26 #[] 3 1 _ rfl
  have hI : OwnI ((w.alloc (.cells #[.int .i64 n, .slice oa R.length cap] 26)).alloc (.cells #[] 3)) (w.heap.size + 1) (.slice (some ⟨w.heap.size + 1, 0, none⟩) 0 0) [] := by
    have h := (OwnI.empty (w.alloc (.cells #[.int .i64 n, .slice oa R.length cap] 26)) _ (Nat.le_refl _))
    simpa using h
  cases ht : isTabF n R
  · have HM : Hid (bordF n R m r = []) := by show bordF n R m r = []; unfold bordF bordOk; rw [ht]; rfl
    go_enter Tryz.func26, Tryz.ntmps26
    go_wp2_with (first | (go_at_call 60; refine Calls.mono (Ans.eqb (c_IsTable _ _ _ _ _ (hR.keep hb)) ht) ?_; rintro e w1 ⟨rfl, hbn⟩; replace a0 := cell_keep a0 hbn; replace a1 := cell_keep a1 hbn; replace hI := hI.keep hbn; replace hb := bel_to (w := w) (by first | exact hb | exact hb.alloc hb.size _ | exact (hb.alloc hb.size _).alloc (Nat.le_trans hb.size (by simp)) _ | exact hb.setCell (by simp [hb.size]) _) hbn; clear hbn))
    go_ret
    exact ⟨_, rfl, by rw [HM.out]; exact hI.based (Nat.le_succ _), hb⟩
  cases hm : modeF m
  · have HM : Hid (bordF n R m r = []) := by show bordF n R m r = []; unfold bordF bordOk; rw [ht, hm]; rfl
    go_enter Tryz.func26, Tryz.ntmps26
    go_wp2_with (first | (go_at_call 60; refine Calls.mono (Ans.eqb (c_IsTable _ _ _ _ _ (hR.keep hb)) ht) ?_; rintro e w1 ⟨rfl, hbn⟩; replace a0 := cell_keep a0 hbn; replace a1 := cell_keep a1 hbn; replace hI := hI.keep hbn; replace hb := bel_to (w := w) (by first | exact hb | exact hb.alloc hb.size _ | exact (hb.alloc hb.size _).alloc (Nat.le_trans hb.size (by simp)) _ | exact hb.setCell (by simp [hb.size]) _) hbn; clear hbn) | (go_at_call 61; refine Calls.mono (Ans.eqb (c_isMode _ _) hm) ?_; rintro e w1 ⟨rfl, hbn⟩; replace a0 := cell_keep a0 hbn; replace a1 := cell_keep a1 hbn; replace hI := hI.keep hbn; replace hb := bel_to (w := w) (by first | exact hb | exact hb.alloc hb.size _ | exact (hb.alloc hb.size _).alloc (Nat.le_trans hb.size (by simp)) _ | exact hb.setCell (by simp [hb.size]) _) hbn; clear hbn))
    go_ret
    exact ⟨_, rfl, by rw [HM.out]; exact hI.based (Nat.le_succ _), hb⟩
  cases hc : (decide (0 ≤ r) && decide (r < n))
  · have HM : Hid (bordF n R m r = []) := by show bordF n R m r = []; unfold bordF bordOk; rw [ht, hm, hc]; rfl
    go_enter Tryz.func26, Tryz.ntmps26
    go_wp2_with (first | (go_at_call 60; refine Calls.mono (Ans.eqb (c_IsTable _ _ _ _ _ (hR.keep hb)) ht) ?_; rintro e w1 ⟨rfl, hbn⟩; replace a0 := cell_keep a0 hbn; replace a1 := cell_keep a1 hbn; replace hI := hI.keep hbn; replace hb := bel_to (w := w) (by first | exact hb | exact hb.alloc hb.size _ | exact (hb.alloc hb.size _).alloc (Nat.le_trans hb.size (by simp)) _ | exact hb.setCell (by simp [hb.size]) _) hbn; clear hbn) | (go_at_call 61; refine Calls.mono (Ans.eqb (c_isMode _ _) hm) ?_; rintro e w1 ⟨rfl, hbn⟩; replace a0 := cell_keep a0 hbn; replace a1 := cell_keep a1 hbn; replace hI := hI.keep hbn; replace hb := bel_to (w := w) (by first | exact hb | exact hb.alloc hb.size _ | exact (hb.alloc hb.size _).alloc (Nat.le_trans hb.size (by simp)) _ | exact hb.setCell (by simp [hb.size]) _) hbn; clear hbn) | (go_at_call 65; refine Calls.mono (Ans.eqb (c_hasColumn _ _ _ _) hc) ?_; rintro e w1 ⟨rfl, hbn⟩; replace a0 := cell_keep a0 hbn; replace a1 := cell_keep a1 hbn; replace hI := hI.keep hbn; replace hb := bel_to (w := w) (by first | exact hb | exact hb.alloc hb.size _ | exact (hb.alloc hb.size _).alloc (Nat.le_trans hb.size (by simp)) _ | exact hb.setCell (by simp [hb.size]) _) hbn; clear hbn))
    go_ret
    exact ⟨_, rfl, by rw [HM.out]; exact hI.based (Nat.le_succ _), hb⟩
  have hok : bordOk n R m r = true := by unfold bordOk; rw [ht, hm, hc]; rfl
  obtain ⟨hn1, hn5, _, _⟩ := isTab_of ht
  have hc' : 0 ≤ r ∧ r < n := by simpa using hc
  have hr64 : 0 ≤ r ∧ r < 64 := ⟨hc'.1, by omega⟩
  have hpl := partsF_len n
  have HM : Hid (bordF n R m r = maxF ((partsF n).filter (bordP R m r))) := by
    show bordF n R m r = maxF ((partsF n).filter (bordP R m r))
    unfold bordF
    rw [if_pos hok]
    have hp := pow_nat (n := n) (by omega) hn5
    refine maxF_same (fun x => ?_) (Nat.le_trans (flt_le _ _) (by omega)) (Nat.le_trans (List.length_filter_le _ _) (by omega))
    rw [flt_mem, List.mem_filter, partsF_mem (by omega) hn5, hp.1]
  have HK : Hid (∀ x ∈ partsF n, askF n R m x r = true) := fun x hx => by
    have h := (partsF_mem (n := n) (by omega) hn5).1 hx
    exact (bord_dep hok h.1 h.2).1
  clear hc' hok
  go_enter Tryz.func26, Tryz.ntmps26
  go_wp2_with (first | (go_at_call 60; refine Calls.mono (Ans.eqb (c_IsTable _ _ _ _ _ (hR.keep hb)) ht) ?_; rintro e w1 ⟨rfl, hbn⟩; replace a0 := cell_keep a0 hbn; replace a1 := cell_keep a1 hbn; replace hI := hI.keep hbn; replace hb := bel_to (w := w) (by first | exact hb | exact hb.alloc hb.size _ | exact (hb.alloc hb.size _).alloc (Nat.le_trans hb.size (by simp)) _ | exact hb.setCell (by simp [hb.size]) _) hbn; clear hbn) | (go_at_call 61; refine Calls.mono (Ans.eqb (c_isMode _ _) hm) ?_; rintro e w1 ⟨rfl, hbn⟩; replace a0 := cell_keep a0 hbn; replace a1 := cell_keep a1 hbn; replace hI := hI.keep hbn; replace hb := bel_to (w := w) (by first | exact hb | exact hb.alloc hb.size _ | exact (hb.alloc hb.size _).alloc (Nat.le_trans hb.size (by simp)) _ | exact hb.setCell (by simp [hb.size]) _) hbn; clear hbn) | (go_at_call 65; refine Calls.mono (Ans.eqb (c_hasColumn _ _ _ _) hc) ?_; rintro e w1 ⟨rfl, hbn⟩; replace a0 := cell_keep a0 hbn; replace a1 := cell_keep a1 hbn; replace hI := hI.keep hbn; replace hb := bel_to (w := w) (by first | exact hb | exact hb.alloc hb.size _ | exact (hb.alloc hb.size _).alloc (Nat.le_trans hb.size (by simp)) _ | exact hb.setCell (by simp [hb.size]) _) hbn; clear hbn))
  have old := hI
  refine (c_PartsBySize n _).mono ?_
  rintro e w2 ⟨v2, rfl, hM, hbn⟩
  have ap_hM := (apart_old old hM).symm
  replace hI := hI.keep hbn
  replace hM := hM.based (World.block_lt_of_cell? _ _ a1)
  replace a0 := cell_keep a0 hbn
  replace a1 := cell_keep a1 hbn
  replace hb := bel_to hb hbn
  clear old hbn
  generalize partsF n = M at *
  obtain ⟨o1, c1, rfl⟩ := hM.shape
  go_wp2
  go_loopw [7, 30] (fun v i wr => ∃ k : Nat, i = .int .i64 k ∧ k ≤ M.length ∧ OwnI wr (w.heap.size + 1) v ((M.take k).filter (bordP R m r)) ∧ OwnI wr (w.heap.size + 1) (.slice o1 M.length c1) M ∧ Apart (.slice o1 M.length c1) v ∧ wr.cell? ⟨w.heap.size, 0, none⟩ = some (.int .i64 n) ∧ wr.cell? ⟨w.heap.size, 1, none⟩ = some (.slice oa R.length cap) ∧ Below w.heap.size w wr) (fun _ i _ => M.length - (intOf i).toNat)
  case atStart => exact ⟨0, rfl, Nat.zero_le _, by simpa using hI, hM, ap_hM, a0, a1, hb⟩
  case round =>
    clear hI hM ap_hM a0 a1 hb
    obtain ⟨k, rfl, hk, hI, hM, ap_hM, a0, a1, hb⟩ := hrel
    by_cases hlt : k < M.length
    · obtain ⟨b2, off2, rfl, hbs2, hca⟩ := (hM.ints rfl (by unfold Room; omega)).at_ (by omega)
      have hc2 := hca k hlt
      have HT : Hid ((M.take (k + 1)).filter (bordP R m r) = (M.take k).filter (bordP R m r) ++ (if bordP R m r (nth M k) then [nth M k] else [])) := filter_take_succ _ _ _ hlt
      have hfl : ((M.take k).filter (bordP R m r)).length ≤ 32 := by
        have := List.length_filter_le (bordP R m r) (M.take k)
        rw [List.length_take] at this
        omega
      have HA : Hid (askF n R m (nth M k) r = true) := HK.out _ (List.mem_iff_getElem?.2 ⟨k, nth_eq hlt⟩)
      clear hca
      generalize nth M k = x at *
      generalize (M.take k).filter (bordP R m r) = F at *
      cases h1 : hasc x r
      · cases h2 : holdsF R m x r
        · have hh : (askF n R m x r && holdsF R m x r) = false := by rw [HA.out, h2]; rfl
          have HP : Hid (bordP R m r x = true) := by show bordP R m r x = true; unfold bordP; rw [h1, h2]; rfl
          go_wp2_with (first | (go_at_call 67; refine Calls.mono (Ans.eqb (c_has _ _ hr64 _) h1) ?_; rintro e w1 ⟨rfl, hbn⟩; replace a0 := cell_keep a0 hbn; replace a1 := cell_keep a1 hbn; replace hI := hI.keep hbn; replace hM := hM.keep hbn; replace hb := bel_to (w := w) (by first | exact hb | exact hb.alloc hb.size _ | exact (hb.alloc hb.size _).alloc (Nat.le_trans hb.size (by simp)) _ | exact hb.setCell (by simp [hb.size]) _) hbn; clear hbn) | (go_at_call 33; refine Calls.mono (Ans.eqb (c_HoldsDep _ _ _ _ _ _ _ _ (hR.keep hb)) hh) ?_; rintro e w1 ⟨rfl, hbn⟩; replace a0 := cell_keep a0 hbn; replace a1 := cell_keep a1 hbn; replace hI := hI.keep hbn; replace hM := hM.keep hbn; replace hb := bel_to (w := w) (by first | exact hb | exact hb.alloc hb.size _ | exact (hb.alloc hb.size _).alloc (Nat.le_trans hb.size (by simp)) _ | exact hb.setCell (by simp [hb.size]) _) hbn; clear hbn) | (at_builtin; refine wpList_append_fresh rfl _ _ 50 rfl (w.heap.size + 1) 3 i0 (.int .i64 0) 1 8 Tryz.underlying50 hi hz0 hz1 hz2 rfl (by decide) _ _ _ rfl (World.ownsRow.alloc hI _) _ 1 1 [.int .i64 (x)] rfl rfl (by intro j u hj; match j, hj with | 0, hj => simp at hj; subst hj; simp [Addr.add]) (by intro u hu; simp at hu; subst hu; rfl) (by unfold maxLen; omega) (by omega) (by have := World.block_lt_of_cell? _ _ a1; simp at this; simp; omega) ?_; intro v' w1 hown hgrow hfr; replace hb := (hb.alloc hb.size _).grown hgrow (by have := hb.size; simp; omega) (fun g hg => Nat.le_trans (Nat.le_succ _) (World.ownsRow.lt hI g hg).1); replace a0 := cell_gr (cell_al a0 _) (World.ownsRow.alloc hI _) (by omega) hgrow; replace a1 := cell_gr (cell_al a1 _) (World.ownsRow.alloc hI _) (by omega) hgrow; obtain ⟨hM, ap_hM⟩ := OwnI.past hM hgrow ap_hM hfr; replace hI := OwnI.snoc hown; clear hown hgrow hfr) | fail)
          go_roundw
          case rel => exact ⟨k + 1, by go_num, by omega, by rw [HT.out, HP.out]; exact hI, hM, ap_hM, a0, a1, hb⟩
          case measure => simp [intOf]; omega
        · have hh : (askF n R m x r && holdsF R m x r) = true := by rw [HA.out, h2]; rfl
          have HP : Hid (bordP R m r x = false) := by show bordP R m r x = false; unfold bordP; rw [h1, h2]; rfl
          go_wp2_with (first | (go_at_call 67; refine Calls.mono (Ans.eqb (c_has _ _ hr64 _) h1) ?_; rintro e w1 ⟨rfl, hbn⟩; replace a0 := cell_keep a0 hbn; replace a1 := cell_keep a1 hbn; replace hI := hI.keep hbn; replace hM := hM.keep hbn; replace hb := bel_to (w := w) (by first | exact hb | exact hb.alloc hb.size _ | exact (hb.alloc hb.size _).alloc (Nat.le_trans hb.size (by simp)) _ | exact hb.setCell (by simp [hb.size]) _) hbn; clear hbn) | (go_at_call 33; refine Calls.mono (Ans.eqb (c_HoldsDep _ _ _ _ _ _ _ _ (hR.keep hb)) hh) ?_; rintro e w1 ⟨rfl, hbn⟩; replace a0 := cell_keep a0 hbn; replace a1 := cell_keep a1 hbn; replace hI := hI.keep hbn; replace hM := hM.keep hbn; replace hb := bel_to (w := w) (by first | exact hb | exact hb.alloc hb.size _ | exact (hb.alloc hb.size _).alloc (Nat.le_trans hb.size (by simp)) _ | exact hb.setCell (by simp [hb.size]) _) hbn; clear hbn) | fail)
          go_roundw
          case rel => exact ⟨k + 1, by go_num, by omega, by rw [HT.out, HP.out]; simpa using hI, hM, ap_hM, a0, a1, hb⟩
          case measure => simp [intOf]; omega
      · have HP : Hid (bordP R m r x = false) := by show bordP R m r x = false; unfold bordP; rw [h1]; rfl
        go_wp2_with (first | (go_at_call 67; refine Calls.mono (Ans.eqb (c_has _ _ hr64 _) h1) ?_; rintro e w1 ⟨rfl, hbn⟩; replace a0 := cell_keep a0 hbn; replace a1 := cell_keep a1 hbn; replace hI := hI.keep hbn; replace hM := hM.keep hbn; replace hb := bel_to (w := w) (by first | exact hb | exact hb.alloc hb.size _ | exact (hb.alloc hb.size _).alloc (Nat.le_trans hb.size (by simp)) _ | exact hb.setCell (by simp [hb.size]) _) hbn; clear hbn) | fail)
        go_roundw
        case rel => exact ⟨k + 1, by go_num, by omega, by rw [HT.out, HP.out]; simpa using hI, hM, ap_hM, a0, a1, hb⟩
        case measure => simp [intOf]; omega
    · have hkk : k = M.length := by omega
      have HE : Hid ((M.take k).filter (bordP R m r) = M.filter (bordP R m r)) := by show (M.take k).filter (bordP R m r) = M.filter (bordP R m r); rw [hkk, List.take_length]
      have hfr : ((M.take k).filter (bordP R m r)).length ≤ Room := by
        have := List.length_filter_le (bordP R m r) (M.take k)
        rw [List.length_take] at this
        unfold Room; omega
      clear hkk
      obtain ⟨oF, cF, rfl, hcF, hnF⟩ := hI.cap
      go_wp2_with fail
      refine (c_MaximalSets _ _ _ _ (hI.ints rfl hfr) hnF).mono ?_
      rintro e w3 ⟨v3, rfl, hR2, hbn⟩
      replace hR2 := hR2.based hb.size
      replace hb := bel_to hb hbn
      clear hbn
      go_wp2
      go_ret
      exact ⟨_, rfl, by rw [HM.out, ← HE.out]; exact hR2, hb⟩
set_option maxHeartbeats 1600000 in
theorem c_specViolatedBorder (n : Int) (oa) (cap : Nat) (R : List (List Int)) (m r : Int) (w : World) (hR : RowsAt w oa R) :
    Calls Tryz.prog 29 #[.agg #[.int .i64 n, .slice oa R.length cap], .int .i64 m, .int .i64 r] w fun e w' => ∃ v, e = .returned v ∧ OwnI w' w.heap.size v (bordF n R m r) ∧ Below w.heap.size w w' := by
  obtain ⟨i0, hi, hz0, hz1, hz2⟩ := info_parts info_int
  have hb := bel2 w (.cells #[.int .i64 n, .slice oa R.length cap] 26) (.cells #[] 3)
  have a0 := two_a w #[.int .i64 n, .slice oa R.length cap] 26 #[] 3 0 _ rfl
  have a1 := two_a w #[.int .i64 n, .slice oa R.length cap] 26 #[] 3 1 _ rfl
  have hI : OwnI ((w.alloc (.cells #[.int .i64 n, .slice oa R.length cap] 26)).alloc (.cells #[] 3)) (w.heap.size + 1) (.slice (some ⟨w.heap.size + 1, 0, none⟩) 0 0) [] := by
    have h := (OwnI.empty (w.alloc (.cells #[.int .i64 n, .slice oa R.length cap] 26)) _ (Nat.le_refl _))
    simpa using h
  cases hf : (isTabF n R && modeF m)
  · have HM : Hid (bordF n R m r = []) := by show bordF n R m r = []; unfold bordF bordOk; rw [hf]; rfl
    go_enter Tryz.func29, Tryz.ntmps29
    go_wp2_with (first | (go_at_call 51; refine Calls.mono (Ans.eqb (c_l4Fine _ _ _ _ _ _ (hR.keep hb)) hf) ?_; rintro e w1 ⟨rfl, hbn⟩; replace a0 := cell_keep a0 hbn; replace a1 := cell_keep a1 hbn; replace hI := hI.keep hbn; replace hb := bel_to (w := w) (by first | exact hb | exact hb.alloc hb.size _ | exact (hb.alloc hb.size _).alloc (Nat.le_trans hb.size (by simp)) _ | exact hb.setCell (by simp [hb.size]) _) hbn; clear hbn))
    go_ret
    exact ⟨_, rfl, by rw [HM.out]; exact hI.based (Nat.le_succ _), hb⟩
  have ht : isTabF n R = true := by have := hf; simp only [Bool.and_eq_true] at this; exact this.1
  obtain ⟨hn1, hn5, _, _⟩ := isTab_of ht
  cases hc : inB r 0 (n - 1)
  · have HM : Hid (bordF n R m r = []) := by
      have e : (decide (0 ≤ r) && decide (r < n)) = false := by rw [← hc]; unfold inB; congr 1; rw [decide_eq_decide]; omega
      show bordF n R m r = []; unfold bordF bordOk; rw [e]; simp
    clear ht
    go_enter Tryz.func29, Tryz.ntmps29
    go_wp2_with (first | (go_at_call 51; refine Calls.mono (Ans.eqb (c_l4Fine _ _ _ _ _ _ (hR.keep hb)) hf) ?_; rintro e w1 ⟨rfl, hbn⟩; replace a0 := cell_keep a0 hbn; replace a1 := cell_keep a1 hbn; replace hI := hI.keep hbn; replace hb := bel_to (w := w) (by first | exact hb | exact hb.alloc hb.size _ | exact (hb.alloc hb.size _).alloc (Nat.le_trans hb.size (by simp)) _ | exact hb.setCell (by simp [hb.size]) _) hbn; clear hbn) | (go_at_call 52; refine Calls.mono (Ans.eqb (c_l1In _ _ _ _) hc) ?_; rintro e w1 ⟨rfl, hbn⟩; replace a0 := cell_keep a0 hbn; replace a1 := cell_keep a1 hbn; replace hI := hI.keep hbn; replace hb := bel_to (w := w) (by first | exact hb | exact hb.alloc hb.size _ | exact (hb.alloc hb.size _).alloc (Nat.le_trans hb.size (by simp)) _ | exact hb.setCell (by simp [hb.size]) _) hbn; clear hbn))
    go_ret
    exact ⟨_, rfl, by rw [HM.out]; exact hI.based (Nat.le_succ _), hb⟩
  have hok : bordOk n R m r = true := by
    have e : (decide (0 ≤ r) && decide (r < n)) = true := by rw [← hc]; unfold inB; congr 1; rw [decide_eq_decide]; omega
    unfold bordOk; rw [hf, e]; rfl
  have hc' : 0 ≤ r ∧ r < n := by unfold inB at hc; simp only [Bool.and_eq_true, decide_eq_true_eq] at hc; omega
  have HM : Hid (bordF n R m r = maxF (flt (bordP R m r) (2 ^ n.toNat))) := by show bordF n R m r = _; unfold bordF; rw [if_pos hok]
  have hn01 : 0 ≤ n ∧ n ≤ 5 := ⟨by omega, hn5⟩
  obtain ⟨hp1, hp2, hp3⟩ := pow_nat (n := n) (by omega) hn5
  have hr1 := hc'.1
  have hr2 : r < 5 := by omega
  have HH : Hid (∀ (w' : World) (x : Int), St x → RowsAt w' oa R → Ans Tryz.prog 72 #[.agg #[.int .i64 n, .slice oa R.length cap], .int .i64 m, .agg #[.int .i64 x, .int .i64 r]] w' (.bool (holdsF R m x r))) := fun w' x hx h => c_l7Holds n oa cap R m x r w' h ht hx ⟨hr1, hr2⟩
  have HCo : Hid (Co r) := ⟨hr1, hr2⟩
  generalize hN : (2 : Nat) ^ n.toNat = N at *
  have hAll : allM n = (N : Int) - 1 := by unfold allM; rw [← hp1]
  clear hp1 hN ht hok hc'
  go_enter Tryz.func29, Tryz.ntmps29
  go_wp2_with (first | (go_at_call 51; refine Calls.mono (Ans.eqb (c_l4Fine _ _ _ _ _ _ (hR.keep hb)) hf) ?_; rintro e w1 ⟨rfl, hbn⟩; replace a0 := cell_keep a0 hbn; replace a1 := cell_keep a1 hbn; replace hI := hI.keep hbn; replace hb := bel_to (w := w) (by first | exact hb | exact hb.alloc hb.size _ | exact (hb.alloc hb.size _).alloc (Nat.le_trans hb.size (by simp)) _ | exact hb.setCell (by simp [hb.size]) _) hbn; clear hbn) | (go_at_call 52; refine Calls.mono (Ans.eqb (c_l1In _ _ _ _) hc) ?_; rintro e w1 ⟨rfl, hbn⟩; replace a0 := cell_keep a0 hbn; replace a1 := cell_keep a1 hbn; replace hI := hI.keep hbn; replace hb := bel_to (w := w) (by first | exact hb | exact hb.alloc hb.size _ | exact (hb.alloc hb.size _).alloc (Nat.le_trans hb.size (by simp)) _ | exact hb.setCell (by simp [hb.size]) _) hbn; clear hbn))
  go_loopw [7, 8] (fun v i wr => ∃ k : Nat, i = .int .i64 k ∧ k ≤ N ∧ OwnI wr (w.heap.size + 1) v (flt (bordP R m r) k) ∧ wr.cell? ⟨w.heap.size, 0, none⟩ = some (.int .i64 n) ∧ wr.cell? ⟨w.heap.size, 1, none⟩ = some (.slice oa R.length cap) ∧ Below w.heap.size w wr) (fun _ i _ => N - (intOf i).toNat)
  case atStart => exact ⟨0, rfl, Nat.zero_le _, hI, a0, a1, hb⟩
  case round =>
    clear hI a0 a1 hb
    obtain ⟨k, rfl, hk, hI, a0, a1, hb⟩ := hrel
    have HS : Hid (flt (bordP R m r) (k + 1) = flt (bordP R m r) k ++ (if bordP R m r k then [(k : Int)] else [])) := flt_succ _ k
    have hle := flt_le (bordP R m r) k
    by_cases hlt : k < N
    · have hst : Hid (St (k : Int)) := ⟨by omega, by omega⟩
      have hd : decide ((k : Int) ≤ (N : Int) - 1) = true := by simp; omega
      cases h1 : hasc (k : Int) r
      · have h1' : (bits BinOp.and IntKind.i64 ((k : Int) / 2 ^ r.toNat) 1 == 0) = true := (hasn_eq hst.out HCo.out).trans (by rw [h1]; rfl)
        cases h2 : holdsF R m (k : Int) r
        · have HP : Hid (bordP R m r (k : Int) = true) := by show bordP R m r (k : Int) = true; unfold bordP; rw [h1, h2]; rfl
          go_wp2_with (first | (go_at_call 71; refine Calls.mono (c_l2All _ hn01 _) ?_; rintro e w1 ⟨rfl, hbn⟩; replace a0 := cell_keep a0 hbn; replace a1 := cell_keep a1 hbn; replace hI := hI.keep hbn; replace hb := bel_to (w := w) (by first | exact hb | exact hb.alloc hb.size _ | exact (hb.alloc hb.size _).alloc (Nat.le_trans hb.size (by simp)) _ | exact hb.setCell (by simp [hb.size]) _) hbn; clear hbn) | (go_at_call 72; refine Calls.mono (Ans.eqb (HH.out _ _ hst.out (hR.keep hb)) h2) ?_; rintro e w1 ⟨rfl, hbn⟩; replace a0 := cell_keep a0 hbn; replace a1 := cell_keep a1 hbn; replace hI := hI.keep hbn; replace hb := bel_to (w := w) (by first | exact hb | exact hb.alloc hb.size _ | exact (hb.alloc hb.size _).alloc (Nat.le_trans hb.size (by simp)) _ | exact hb.setCell (by simp [hb.size]) _) hbn; clear hbn) | (at_builtin; refine wpList_append_fresh rfl _ _ 50 rfl (w.heap.size + 1) 3 i0 (.int .i64 0) 1 8 Tryz.underlying50 hi hz0 hz1 hz2 rfl (by decide) _ _ _ rfl (World.ownsRow.alloc hI _) _ 1 1 [.int .i64 ((k : Int))] rfl rfl (by intro j u hj; match j, hj with | 0, hj => simp at hj; subst hj; simp [Addr.add]) (by intro u hu; simp at hu; subst hu; rfl) (by unfold maxLen; omega) (by omega) (by have := World.block_lt_of_cell? _ _ a1; simp at this; simp; omega) ?_; intro v' w1 hown hgrow hfr; replace hb := (hb.alloc hb.size _).grown hgrow (by have := hb.size; simp; omega) (fun g hg => Nat.le_trans (Nat.le_succ _) (World.ownsRow.lt hI g hg).1); replace a0 := cell_gr (cell_al a0 _) (World.ownsRow.alloc hI _) (by omega) hgrow; replace a1 := cell_gr (cell_al a1 _) (World.ownsRow.alloc hI _) (by omega) hgrow; replace hI := OwnI.snoc hown; clear hown hgrow hfr) | fail)
          go_roundw
          case rel => exact ⟨k + 1, by go_num, by omega, by rw [HS.out, HP.out]; exact hI, a0, a1, hb⟩
          case measure => simp [intOf]; omega
        · have HP : Hid (bordP R m r (k : Int) = false) := by show bordP R m r (k : Int) = false; unfold bordP; rw [h1, h2]; rfl
          go_wp2_with (first | (go_at_call 71; refine Calls.mono (c_l2All _ hn01 _) ?_; rintro e w1 ⟨rfl, hbn⟩; replace a0 := cell_keep a0 hbn; replace a1 := cell_keep a1 hbn; replace hI := hI.keep hbn; replace hb := bel_to (w := w) (by first | exact hb | exact hb.alloc hb.size _ | exact (hb.alloc hb.size _).alloc (Nat.le_trans hb.size (by simp)) _ | exact hb.setCell (by simp [hb.size]) _) hbn; clear hbn) | (go_at_call 72; refine Calls.mono (Ans.eqb (HH.out _ _ hst.out (hR.keep hb)) h2) ?_; rintro e w1 ⟨rfl, hbn⟩; replace a0 := cell_keep a0 hbn; replace a1 := cell_keep a1 hbn; replace hI := hI.keep hbn; replace hb := bel_to (w := w) (by first | exact hb | exact hb.alloc hb.size _ | exact (hb.alloc hb.size _).alloc (Nat.le_trans hb.size (by simp)) _ | exact hb.setCell (by simp [hb.size]) _) hbn; clear hbn) | fail)
          go_roundw
          case rel => exact ⟨k + 1, by go_num, by omega, by rw [HS.out, HP.out]; simpa using hI, a0, a1, hb⟩
          case measure => simp [intOf]; omega
      · have h1' : (bits BinOp.and IntKind.i64 ((k : Int) / 2 ^ r.toNat) 1 == 0) = false := (hasn_eq hst.out HCo.out).trans (by rw [h1]; rfl)
        have HP : Hid (bordP R m r (k : Int) = false) := by show bordP R m r (k : Int) = false; unfold bordP; rw [h1]; rfl
        go_wp2_with (first | (go_at_call 71; refine Calls.mono (c_l2All _ hn01 _) ?_; rintro e w1 ⟨rfl, hbn⟩; replace a0 := cell_keep a0 hbn; replace a1 := cell_keep a1 hbn; replace hI := hI.keep hbn; replace hb := bel_to (w := w) (by first | exact hb | exact hb.alloc hb.size _ | exact (hb.alloc hb.size _).alloc (Nat.le_trans hb.size (by simp)) _ | exact hb.setCell (by simp [hb.size]) _) hbn; clear hbn) | fail)
        go_roundw
        case rel => exact ⟨k + 1, by go_num, by omega, by rw [HS.out, HP.out]; simpa using hI, a0, a1, hb⟩
        case measure => simp [intOf]; omega
    · have hkk : k = N := by omega
      have HK : Hid (k = N) := hkk
      have hd : decide ((k : Int) ≤ (N : Int) - 1) = false := by simp; omega
      clear hkk
      have hfr : (flt (bordP R m r) k).length ≤ Room := by unfold Room; omega
      obtain ⟨oF, cF, rfl⟩ := hI.shape
      go_wp2_with (first | (go_at_call 71; refine Calls.mono (c_l2All _ hn01 _) ?_; rintro e w1 ⟨rfl, hbn⟩; replace a0 := cell_keep a0 hbn; replace a1 := cell_keep a1 hbn; replace hI := hI.keep hbn; replace hb := bel_to (w := w) (by first | exact hb | exact hb.alloc hb.size _ | exact (hb.alloc hb.size _).alloc (Nat.le_trans hb.size (by simp)) _ | exact hb.setCell (by simp [hb.size]) _) hbn; clear hbn) | fail)
      refine (c_specMaximalSets _ _ _ _ (hI.ints rfl hfr)).mono ?_
      rintro e w3 ⟨v3, rfl, hR2, hbn⟩
      replace hR2 := hR2.based hb.size
      replace hb := bel_to hb hbn
      clear hbn
      go_wp2
      go_ret
      exact ⟨_, rfl, by rw [HM.out, ← HK.out]; exact hR2, hb⟩
end Go.Proofs.YtcenndlbhgfdfaaGreat
namespace Go.Proofs.YtcenndlbhgfdfaaGreat
open Go.RowKit
set_option linter.unusedVariables false
set_option maxRecDepth 100000

def cellF (R : List (List Int)) (x r : Int) : Int := nth (row R x.toNat) r.toNat
def pairB (R : List (List Int)) (m r : Int) (C : List Int) (k j : Nat) : Bool := (nth C k != nth C j) && eqCellF m (cellF R (nth C k) r) (cellF R (nth C j) r)
def cntN (p : Nat → Bool) (t : Nat) : Nat := ((List.range t).filter p).length
def mostTo (R : List (List Int)) (m r : Int) (C : List Int) (t : Nat) : Int := (List.range t).foldl (fun a k => max a (1 + (cntN (pairB R m r C k) C.length : Int))) 0
def sumTo (R : List (List Int)) (m r : Int) (P : List (List Int)) (t : Nat) : Int := (List.range t).foldl (fun a c => a + ((row P c).length - mostTo R m r (row P c) (row P c).length)) 0
def rrF (n : Int) (R : List (List Int)) (m l r : Int) : Int := if askF n R m l r then sumTo R m r (ptnQ (sameB R m l) R.length R.length) (ptnQ (sameB R m l) R.length R.length).length else -1

theorem cnt_succ (p : Nat → Bool) (t : Nat) : cntN p (t + 1) = cntN p t + if p t then 1 else 0 := by
  unfold cntN
  rw [List.range_succ, List.filter_append, List.length_append]
  cases h : p t <;> simp [h]
theorem cnt_le (p : Nat → Bool) (t : Nat) : cntN p t ≤ t := by
  unfold cntN
  have := List.length_filter_le p (List.range t)
  rw [List.length_range] at this
  exact this
theorem most_succ (R : List (List Int)) (m r : Int) (C : List Int) (t : Nat) : mostTo R m r C (t + 1) = max (mostTo R m r C t) (1 + (cntN (pairB R m r C t) C.length : Int)) := by unfold mostTo; rw [range_succ_fold]
theorem most_bd (R : List (List Int)) (m r : Int) (C : List Int) : ∀ t, 0 ≤ mostTo R m r C t ∧ mostTo R m r C t ≤ C.length + 1
  | 0 => by simp [mostTo]; omega
  | t + 1 => by
    rw [most_succ]
    have h1 := most_bd R m r C t
    have h2 := cnt_le (pairB R m r C t) C.length
    omega
theorem sum_succ (R : List (List Int)) (m r : Int) (P : List (List Int)) (t : Nat) : sumTo R m r P (t + 1) = sumTo R m r P t + ((row P t).length - mostTo R m r (row P t) (row P t).length) := by unfold sumTo; rw [range_succ_fold]
theorem sum_bd {R : List (List Int)} {m r : Int} {P : List (List Int)} (hP : ∀ j, j < P.length → (row P j).length ≤ 41) : ∀ t, t ≤ P.length → -(t : Int) ≤ sumTo R m r P t ∧ sumTo R m r P t ≤ 41 * t
  | 0, _ => by simp [sumTo]
  | t + 1, ht => by
    rw [sum_succ]
    have h1 := sum_bd (R := R) (m := m) (r := r) hP t (by omega)
    have h2 := most_bd R m r (row P t) (row P t).length
    have h3 := hP t (by omega)
    omega
theorem cls_low {q : Nat → Nat → Bool} {N i : Nat} (hi : i < N) : ∀ x ∈ clsTo q i N, ∃ e : Nat, x = e ∧ e < N := by
  intro x hx
  rcases cls_mem.1 hx with rfl | ⟨k, rfl, h, _⟩
  · exact ⟨i, rfl, hi⟩
  · exact ⟨k, rfl, h⟩
theorem cls_up {q : Nat → Nat → Bool} {i t : Nat} : Up (clsTo q i t) := by
  unfold Up clsTo
  rw [List.pairwise_cons]
  refine ⟨fun x hx => ?_, ?_⟩
  · obtain ⟨k, hk, rfl⟩ := List.mem_map.1 hx
    have := (List.mem_filter.1 hk).2
    simp only [Bool.and_eq_true, decide_eq_true_eq] at this
    omega
  · rw [List.pairwise_map]
    refine List.Pairwise.filter _ ?_
    refine List.Pairwise.imp ?_ List.pairwise_lt_range
    intro a b h; omega
theorem up_ne {C : List Int} (h : Up C) {k j : Nat} (hk : k < C.length) (hj : j < C.length) : (nth C k != nth C j) = decide (k ≠ j) := by
  unfold Up at h
  rw [List.pairwise_iff_getElem] at h
  have ek : C[k] = nth C k := by have := nth_eq hk; rw [List.getElem?_eq_getElem hk] at this; injection this
  have ej : C[j] = nth C j := by have := nth_eq hj; rw [List.getElem?_eq_getElem hj] at this; injection this
  by_cases e : k = j
  · subst e; simp
  · have : nth C k ≠ nth C j := by
      rcases Nat.lt_or_ge k j with h' | h'
      · have := h k j hk hj h'; rw [ek, ej] at this; omega
      · have := h j k hj hk (by omega); rw [ek, ej] at this; omega
    simp [e, this]

def someF (p : Int → Int → Bool) (P : List Int) (r : Int) : List Int := P.filter fun x => !hasc x r && p x r
def lowF (p : Int → Int → Bool) (P : List Int) (r : Int) : List Int := minF (someF p P r)
theorem some_st {N : Nat} (hN : N ≤ 5) {p : Int → Int → Bool} {r : Int} : ∀ x ∈ someF p (partsF N) r, St x := by
  intro x hx
  have h := (partsF_mem (n := (N : Int)) (by omega) (by omega)).1 (List.mem_filter.1 hx).1
  have h2 := (pow_wrap (n := (N : Int)) (by omega) (by omega)).2.1
  exact ⟨h.1, by omega⟩
theorem some_len (p : Int → Int → Bool) (n r : Int) : (someF p (partsF n) r).length ≤ 32 := by
  have h := List.length_filter_le (fun x => !hasc x r && p x r) (partsF n)
  have := partsF_len n
  unfold someF; omega
theorem low_mem {N : Nat} (hN : N ≤ 5) {p : Int → Int → Bool} {r x : Int} : x ∈ lowF p (partsF N) r ↔ x ∈ someF p (partsF N) r ∧ ∀ y ∈ someF p (partsF N) r, ins y x = true → y = x := by
  have hs : setsF (someF p (partsF N) r) = true := List.all_eq_true.2 fun x hx => by simpa [stB] using some_st hN x hx
  have hl := some_len p N r
  unfold lowF
  rw [minF_sets hs (by omega), flt_mem, Bool.and_eq_true, minB_iff]
  constructor
  · rintro ⟨_, h1, h2⟩; exact ⟨by simpa [inB'] using h1, h2⟩
  · rintro ⟨h1, h2⟩
    have := some_st hN x h1
    exact ⟨by unfold St at this; omega, by simpa [inB'] using h1, h2⟩
theorem low_below {N : Nat} (hN : N ≤ 5) {p : Int → Int → Bool} {r z : Int} (hz : z ∈ someF p (partsF N) r) : ∃ x ∈ lowF p (partsF N) r, ins x z = true := by
  have sz := some_st hN z hz
  obtain ⟨x, hx, hi⟩ := exists_min (p := inB' (someF p (partsF N) r)) (card z) z (Nat.le_refl _) sz (by simpa [inB'] using hz)
  obtain ⟨sx, px, mx⟩ := minL_mem.1 hx
  refine ⟨x, (low_mem hN).2 ⟨by simpa [inB'] using px, fun y hy hi => mx y (some_st hN y hy) (by simpa [inB'] using hy) hi⟩, hi⟩
theorem taken_low {N : Nat} (hN : N ≤ 5) {p : Int → Int → Bool} {r : Int} : ∀ k, k ≤ (partsF N).length → takenF p r ((partsF N).take k) = ((partsF N).take k).filter (inB' (lowF p (partsF N) r))
  | 0, _ => by simp [takenF]
  | k + 1, hk => by
    have hlt : k < (partsF N).length := by omega
    rw [taken_succ _ _ hlt, taken_low hN k (by omega), filter_take_succ _ _ _ hlt]
    have hup := up_index (parts_up hN) hlt
    have hxm : nth (partsF N) k ∈ partsF N := List.mem_iff_getElem?.2 ⟨k, nth_eq hlt⟩
    generalize nth (partsF N) k = x at *
    have key : ((!hasc x r && !anyIns (((partsF N).take k).filter (inB' (lowF p (partsF N) r))) x) && p x r) = inB' (lowF p (partsF N) r) x := by
      rw [Bool.eq_iff_iff]
      simp only [Bool.and_eq_true, Bool.not_eq_true']
      have e0 : inB' (lowF p (partsF N) r) x = true ↔ x ∈ lowF p (partsF N) r := by simp [inB']
      rw [e0]
      constructor
      · rintro ⟨⟨h1, h2⟩, h3⟩
        have hxs : x ∈ someF p (partsF N) r := List.mem_filter.2 ⟨hxm, by rw [h1, h3]; rfl⟩
        have sx := some_st hN x hxs
        obtain ⟨y, hy, hi⟩ := low_below hN hxs
        by_cases e : y = x
        · rw [← e]; exact hy
        · exfalso
          have hys := ((low_mem hN).1 hy).1
          have sy := some_st hN y hys
          have hc := card_lt sy sx hi e
          have hyt := hup.1 y (List.mem_filter.1 hys).1 (by unfold keyI; unfold St at sx sy; omega)
          have : anyIns (((partsF N).take k).filter (inB' (lowF p (partsF N) r))) x = true := List.any_eq_true.2 ⟨y, List.mem_filter.2 ⟨hyt, by simpa [inB'] using hy⟩, hi⟩
          rw [this] at h2; cases h2
      · intro hx
        obtain ⟨hxs, hmin⟩ := (low_mem hN).1 hx
        have hxp := (List.mem_filter.1 hxs).2
        simp only [Bool.and_eq_true, Bool.not_eq_true'] at hxp
        refine ⟨⟨hxp.1, ?_⟩, hxp.2⟩
        cases ha : anyIns (((partsF N).take k).filter (inB' (lowF p (partsF N) r))) x
        · rfl
        · exfalso
          obtain ⟨y, hy, hyx⟩ := List.any_eq_true.1 ha
          obtain ⟨hyt, hyl⟩ := List.mem_filter.1 hy
          have hyl : y ∈ lowF p (partsF N) r := by simpa [inB'] using hyl
          have e := hmin y ((low_mem hN).1 hyl).1 hyx
          have := hup.2 y hyt
          rw [e] at this
          omega
    unfold stepM
    rw [key]
    split
    · rfl
    · simp
def appOk (n : Int) (R : List (List Int)) (m q x r : Int) : Bool := decide (rrF n R m x r ≤ q)
def apprF (n : Int) (R : List (List Int)) (m q : Int) : List (Int × Int) := if (isTabF n R && modeF m) && decide (0 ≤ q) then colsF (appOk n R m q) (partsF n) n.toNat else []
theorem appr_len (n : Int) (R : List (List Int)) (m q : Int) : (apprF n R m q).length ≤ Room := by
  unfold apprF
  split
  · next h =>
    simp only [Bool.and_eq_true] at h
    obtain ⟨h1, h5, _, _⟩ := isTab_of h.1.1
    have a := colsF_len (appOk n R m q) (partsF n) n.toNat
    have b := partsF_len n
    have c : (partsF n).length * n.toNat ≤ 32 * 5 := Nat.mul_le_mul b (by omega)
    unfold Room; omega
  · simp
theorem colF_low {N : Nat} (hN : N ≤ 5) (p : Int → Int → Bool) (r : Int) : colF p (partsF N) r = ((partsF N).filter (inB' (lowF p (partsF N) r))).map fun x => (x, r) := by
  unfold colF
  have h := taken_low (p := p) (r := r) hN (partsF N).length (Nat.le_refl _)
  rw [List.take_length] at h
  rw [h]
end Go.Proofs.YtcenndlbhgfdfaaGreat
