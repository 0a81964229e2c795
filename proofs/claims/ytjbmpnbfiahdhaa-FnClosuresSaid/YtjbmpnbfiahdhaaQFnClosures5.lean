/- Contracts and lemmas for FnClosures, part 5 of 6. -/
import Derived.Test.YtjbmpnbfiahdhaaQFnClosures1
import Derived.Test.YtjbmpnbfiahdhaaQFnClosures2
import Derived.Test.YtjbmpnbfiahdhaaQFnClosures3
import Derived.Test.YtjbmpnbfiahdhaaQFnClosures4
import Derived.ProofKit
import Derived.OpenShut
import Derived.Lib.SmallJoins
import Derived.BigRegion
import Derived.RegionTactic
import Derived.Outline
import Derived.Deep.RegionLaw
namespace Go.Proofs.Ytjbmpnbfiahdhaa
open Go.RowKit
set_option linter.unusedVariables false
set_option maxRecDepth 100000

theorem cap_le {x y : Int} (hx : St x) (hy : St y) : 0 ≤ cap x y ∧ cap x y ≤ x := by
  obtain ⟨n, hn, rfl⟩ := st_nat hx; obtain ⟨m, hm, rfl⟩ := st_nat hy
  have h : ∀ n < 32, ∀ m < 32, 0 ≤ cap ((n : Nat) : Int) ((m : Nat) : Int) ∧ cap ((n : Nat) : Int) ((m : Nat) : Int) ≤ ((n : Nat) : Int) := by decide +kernel
  exact h n hn m hm
theorem cap_ins_left {x y : Int} (hx : St x) (hy : St y) : ins (cap x y) x = true :=
  (ins_iff (cap_st hx hy) hx).2 fun c hc h => by rw [hasc_cap hx hy hc, Bool.and_eq_true] at h; exact h.1
theorem cap_ins_right {x y : Int} (hx : St x) (hy : St y) : ins (cap x y) y = true :=
  (ins_iff (cap_st hx hy) hy).2 fun c hc h => by rw [hasc_cap hx hy hc, Bool.and_eq_true] at h; exact h.2
theorem closed_iff {D : List (Int × Int)} {x : Int} (hv : Val D) (hx : St x) : (cloF D x == x) = true ↔ Closed D x := by
  constructor
  · intro h
    have e : cloF D x = x := by simpa using h
    have := cloF_closed hv hx
    rw [e] at this; exact this
  · intro h; rw [cloF_same hv hx h]; simp
theorem closed_cap {D : List (Int × Int)} {x y : Int} (hv : Val D) (hx : St x) (hy : St y) (h : Closed D x) (h' : Closed D y) : Closed D (cap x y) := by
  intro d hd hi
  obtain ⟨h1, h2⟩ := hv d hd
  rw [hasc_cap hx hy h2, h d hd (ins_trans h1 (cap_st hx hy) hx hi (cap_ins_left hx hy)), h' d hd (ins_trans h1 (cap_st hx hy) hy hi (cap_ins_right hx hy))]
  rfl
theorem closedSets_mem {n x : Int} {D : List (Int × Int)} (h : areDepsF n D = true) : x ∈ closedSetsF n D ↔ 0 ≤ x ∧ x < 2 ^ n.toNat ∧ St x ∧ Closed D x := by
  obtain ⟨hv, h1, h5, _⟩ := areDepsF_val h
  have hp := pow_nat (n := n) (by omega) h5
  unfold closedSetsF
  rw [if_pos h, flt_mem, hp.1]
  constructor
  · rintro ⟨⟨h0, h2⟩, h3⟩
    have hs : St x := ⟨h0, by omega⟩
    exact ⟨h0, h2, hs, (closed_iff hv hs).1 h3⟩
  · rintro ⟨h0, h2, h3, h4⟩
    exact ⟨⟨h0, h2⟩, (closed_iff hv h3).2 h4⟩
theorem closedSets_cap {n x y : Int} {D : List (Int × Int)} (hx : x ∈ closedSetsF n D) (hy : y ∈ closedSetsF n D) : cap x y ∈ closedSetsF n D := by
  cases h : areDepsF n D with
  | false => unfold closedSetsF at hx; rw [h] at hx; simp at hx
  | true =>
    have hv := (areDepsF_val h).1
    rw [closedSets_mem h] at hx hy ⊢
    obtain ⟨x0, x1, x2, x3⟩ := hx
    obtain ⟨y0, y1, y2, y3⟩ := hy
    have := cap_le x2 y2
    exact ⟨this.1, by omega, cap_st x2 y2, closed_cap hv x2 y2 x3 y3⟩
theorem implies_closed {D : List (Int × Int)} {l r c : Int} (hv : Val D) (hl : St l) (hr : Co r) (hc : St c) (h : impF D l r = true) (hcl : Closed D c) (hi : ins l c = true) : hasc c r = true :=
  (ins_iff (cloF_st hv hl) hc).1 (cloF_min hv hl hc hi hcl) r hr h
theorem closedSets_impl {n l r c : Int} {D : List (Int × Int)} (h : impliesDepF n D l r = true) (hc : c ∈ closedSetsF n D) (hi : ins l c = true) : hasc c r = true := by
  unfold impliesDepF at h
  simp only [Bool.and_eq_true] at h
  obtain ⟨ha, hd, hp⟩ := h
  obtain ⟨⟨hl, hr⟩, _⟩ := isDepF_val hd
  rw [closedSets_mem ha] at hc
  exact implies_closed (areDepsF_val ha).1 hl hr hc.2.2.1 hp hc.2.2.2 hi
theorem cloF_mono {D : List (Int × Int)} {x y : Int} (hv : Val D) (hx : St x) (hy : St y) (h : ins x y = true) : ins (cloF D x) (cloF D y) = true :=
  cloF_min hv hx (cloF_st hv hy) (ins_trans hx hy (cloF_st hv hy) h (cloF_up hv hy)) (cloF_closed hv hy)
theorem drv_chk {D : List (Int × Int)} {r x : Int} {i : Nat} {L : List T3} (hv : Val D) (hr : Co r) (h : Drv D r x i L) : St x → (∀ j, j < i → ins (nl D j) x = true → hasc x (nr D j) = true) → hasc (cloF D x) r = true → chk D r L x = true ∧ L.length + card x ≤ 5 := by
  induction h with
  | done h => intro hx _ _; exact ⟨h, by have := card_le; simpa using this _⟩
  | @stop x i h hi =>
    intro hx hall hc
    rw [cloF_same hv hx (closed_of fun j hj => hall j (by omega)), h] at hc
    cases hc
  | @take x i L h hi ha hb hL ih =>
    intro hx hall hc
    obtain ⟨h1, h2⟩ := hv.at_ hi
    have hu := uni_st hx (one_st h2)
    have hup := ins_uni_left hx (one_st h2)
    obtain ⟨k1, k2⟩ := ih hu (fun j hj => absurd hj (by omega)) ((ins_iff (cloF_st hv hx) (cloF_st hv hu)).1 (cloF_mono hv hx hu hup) r hr hc)
    have hlt := card_lt hx hu hup (by have := uni_lt hx h2 hb; omega)
    refine ⟨?_, by simp; omega⟩
    show (stepOk D x ((i : Int), x, uni x (one (nr D i))) && chk D r L (uni x (one (nr D i)))) = true
    rw [k1]
    unfold stepOk inB
    simp only [Int.toNat_natCast]
    rw [insA_eq h1 hx, ha]
    simp
    omega
  | @skip x i L h hi ha hL ih =>
    intro hx hall hc
    exact ih hx (lt_step (p := fun j => ins (nl D j) x = true → hasc x (nr D j) = true) hall (fun hi => by rw [hi] at ha; simpa using ha)) hc
theorem derives_ok {n l r : Int} {D : List (Int × Int)} {L : List T3} (h : Derives n D l r L) : (impliesDepF n D l r = true → checkF n D l r L = true) ∧ L.length ≤ 5 := by
  cases e : impliesDepF n D l r with
  | false => rw [h.2.1 e]; exact ⟨fun h => (by cases h), by simp⟩
  | true =>
    have e' := e
    unfold impliesDepF at e'
    simp only [Bool.and_eq_true] at e'
    obtain ⟨ha, hd, hp⟩ := e'
    obtain ⟨⟨hl, hr⟩, _⟩ := isDepF_val hd
    obtain ⟨k1, k2⟩ := drv_chk (areDepsF_val ha).1 hr (h.1 e) hl (fun j hj => absurd hj (by omega)) hp
    exact ⟨fun _ => by unfold checkF; rw [ha, hd, k1]; rfl, by omega⟩
theorem bits_below : ∀ N < 6, ∀ x < 32, ∀ c < 5, ((x : Nat) : Int) < 2 ^ N → hasc ((x : Nat) : Int) ((c : Nat) : Int) = true → c < N := by decide +kernel
theorem bit_below {N : Nat} {x c : Int} (hN : N ≤ 5) (hx : St x) (hc : Co c) (hlt : x < 2 ^ N) (h : hasc x c = true) : c < N := by
  obtain ⟨a, ha, rfl⟩ := st_nat hx; obtain ⟨k, hk, rfl⟩ := co_nat hc
  have := bits_below N (by omega) a ha k hk hlt h
  omega
theorem nth_rep {N k : Nat} (h : k < N) : nth (List.replicate N 0) k = 0 := by simp [nth, List.getD, h]
/-- The columns in which the two rows of the counterexample agree. -/
theorem ctr_agree {N : Nat} {x c v : Int} (hN : N ≤ 5) (hv : v ≠ 0) (hc : Co c) : hasc (agreeF 0 (List.replicate N 0) (rowForF N x v)) c = (decide (c < N) && hasc x c) := by
  have hc0 := hc.1
  rw [hasc_agree hc (by simpa using hN)]
  simp only [List.length_replicate]
  by_cases h : c.toNat < N
  · have h' : c < N := by omega
    have e : ((c.toNat : Nat) : Int) = c := by omega
    rw [decide_eq_true h, decide_eq_true h', nth_rep h, rowFor_nth h, e]
    unfold eqCellF modeF
    cases hh : hasc x c
    · simp; exact fun e => hv e.symm
    · simp
  · have h' : ¬ c < N := by omega
    rw [decide_eq_false h, decide_eq_false h']; rfl
theorem holdsF_two {A B : List Int} {m l r : Int} : holdsF [A, B] m l r = !(ins l (agreeF m A B) && !hasc (agreeF m A B) r) := by
  have e : (∀ i, i < [A, B].length → ∀ k, k < [A, B].length → i < k → violF [A, B] m l r i k = false) ↔ violF [A, B] m l r 0 1 = false := by
    constructor
    · intro h; exact h 0 (by simp) 1 (by simp) (by omega)
    · intro h i hi k hk hik
      simp at hi hk
      have h1 : i = 0 := by omega
      have h2 : k = 1 := by omega
      subst h1 h2; exact h
  unfold holdsF
  rw [decide_eq_decide.2 e]
  show decide ((ins l (agreeF m A B) && !hasc (agreeF m A B) r) = false) = _
  cases (ins l (agreeF m A B) && !hasc (agreeF m A B) r) <;> rfl
theorem rowFor_ok {N : Nat} {x v : Int} (h0 : 0 ≤ v) (h40 : v ≤ 40) : rowOk N (rowForF N x v) = true := by
  unfold rowOk
  rw [rowFor_len, Bool.and_eq_true]
  refine ⟨List.all_eq_true.2 fun y hy => ?_, by simp⟩
  unfold rowForF at hy
  obtain ⟨c, _, rfl⟩ := List.mem_map.1 hy
  unfold inB
  split <;> simp <;> omega
theorem rep_ok0 (N : Nat) : rowOk N (List.replicate N 0) = true := by
  unfold rowOk
  rw [Bool.and_eq_true]
  refine ⟨List.all_eq_true.2 fun y hy => ?_, by simp⟩
  have := List.eq_of_mem_replicate hy
  subst this; rfl
theorem ctr_law {n l r : Int} {D : List (Int × Int)} (h : ctrF n D l r = true) : satF (ctrN n D l r) (ctrO n D l r) 0 D = true ∧ heldF (ctrN n D l r) (ctrO n D l r) 0 (l, r) = false ∧ (ctrO n D l r).length = 2 := by
  obtain ⟨N, rfl, hN⟩ := ctr_pos h
  unfold ctrN ctrO
  rw [if_pos h, if_pos h]
  unfold ctrF at h
  simp only [Bool.and_eq_true, Bool.not_eq_true'] at h
  obtain ⟨ha, hd, hp⟩ := h
  obtain ⟨hv, hn1, hn5, _⟩ := areDepsF_val ha
  obtain ⟨⟨hl, hr⟩, _⟩ := isDepF_val hd
  have hcl := cloF_st hv hl
  have htab : isTabF N [List.replicate N 0, rowForF N (cloF D l) 1] = true := by
    unfold isTabF
    simp only [List.all_cons, List.all_nil, rep_ok0, rowFor_ok (by omega : (0 : Int) ≤ 1) (by omega), Bool.and_self, Bool.true_and, List.length_cons, List.length_nil]
    simp; omega
  have hag := fun {c} (hc : Co c) => ctr_agree (N := N) (x := cloF D l) (v := 1) hN (by decide) hc
  have hst : St (agreeF 0 (List.replicate N 0) (rowForF N (cloF D l) 1)) := agreeF_st (by simpa using hN)
  simp only [Int.toNat_natCast]
  unfold ctrR
  refine ⟨?_, ?_, by simp⟩
  · unfold satF
    rw [htab]
    show (D.all _ && true) = true
    rw [Bool.and_true]
    refine List.all_eq_true.2 fun d hdm => ?_
    have hdd : isDepF N d.1 d.2 = true := by
      unfold areDepsF at ha
      rw [Bool.and_eq_true] at ha
      exact List.all_eq_true.1 ha.1 d hdm
    obtain ⟨⟨h1, h2⟩, _⟩ := isDepF_val hdd
    have hlt : d.2 < N := by unfold isDepF at hdd; simp at hdd; exact hdd.2
    unfold heldF askF
    rw [htab, hdd, holdsF_two]
    show (!(_ && !_)) = true
    cases hi : ins d.1 (agreeF 0 (List.replicate N 0) (rowForF N (cloF D l) 1))
    · rfl
    · have hi2 : ins d.1 (cloF D l) = true := (ins_iff h1 hcl).2 fun c hc hh => by
        have := (ins_iff h1 hst).1 hi c hc hh
        rw [hag hc, Bool.and_eq_true] at this; exact this.2
      rw [hag h2, cloF_closed hv hl d hdm hi2, decide_eq_true hlt]; rfl
  · have hln : l < 2 ^ N := by unfold isDepF isAttr at hd; simp at hd; exact hd.1.1.2.2
    have hi : ins l (agreeF 0 (List.replicate N 0) (rowForF N (cloF D l) 1)) = true := (ins_iff hl hst).2 fun c hc hh => by
      rw [hag hc, (ins_iff hl hcl).1 (cloF_up hv hl) c hc hh, decide_eq_true (bit_below hN hl hc hln hh)]; rfl
    have hp' : hasc (cloF D l) r = false := hp
    unfold heldF
    rw [holdsF_two, hi, hag hr, hp']
    simp
theorem full_bits : ∀ N < 6, ∀ x < 32, (∀ c < 5, hasc ((x : Nat) : Int) ((c : Nat) : Int) = true → c < N) → ((x : Nat) : Int) < 2 ^ N := by decide +kernel
theorem below_of_bits {N : Nat} {x : Int} (hN : N ≤ 5) (hx : St x) (h : ∀ c, Co c → hasc x c = true → c < N) : x < 2 ^ N := by
  obtain ⟨a, ha, rfl⟩ := st_nat hx
  exact full_bits N (by omega) a ha fun c hc hh => by have := h c (by unfold Co; omega) hh; omega
theorem allN_bits : ∀ N < 6, ∀ c < 5, hasc (2 ^ N - 1) ((c : Nat) : Int) = decide (c < N) := by decide +kernel
theorem allN_st : ∀ N < 6, (0 : Int) ≤ 2 ^ N - 1 ∧ (2 : Int) ^ N - 1 < 32 := by decide +kernel
/-- The closure under dependencies on n columns stays among these. -/
theorem clo_below {N : Nat} {D : List (Int × Int)} {s : Int} (hN : N ≤ 5) (hv : Val D) (hD : ∀ d ∈ D, d.2 < N) (hs : St s) (hlt : s < 2 ^ N) : cloF D s < 2 ^ N := by
  have hz : St (2 ^ N - 1) := allN_st N (by omega)
  have hb : ∀ c, Co c → hasc (2 ^ N - 1) c = decide (c < N) := fun c hc => by
    obtain ⟨k, hk, rfl⟩ := co_nat hc
    rw [allN_bits N (by omega) k hk, decide_eq_decide]; omega
  have hi : ins s (2 ^ N - 1) = true := (ins_iff hs hz).2 fun c hc h => by rw [hb c hc]; exact decide_eq_true (bit_below hN hs hc hlt h)
  have := cloF_min hv hs hz hi (fun d hd _ => by rw [hb _ (hv d hd).2]; exact decide_eq_true (hD d hd))
  exact below_of_bits hN (cloF_st hv hs) fun c hc h => by
    have h2 := (ins_iff (cloF_st hv hs) hz).1 this c hc h
    rw [hb c hc] at h2
    exact of_decide_eq_true h2
end Go.Proofs.Ytjbmpnbfiahdhaa
namespace Go.Proofs.Ytjbmpnbfiahdhaa
open Go.ChangeShapes Go.WideShapes Go.ChangeAt Go.RowKit
set_option linter.unusedVariables false
set_option maxRecDepth 100000

/-- n bytes that can be read. -/
structure BytesAt (w : World) (oa : Option Addr) (n : Nat) : Prop where
  at_ : 0 < n → ∃ b off, oa = some ⟨b, off, none⟩ ∧ b < w.heap.size ∧ ∀ k, k < n → ∃ x : Int, w.cell? ⟨b, off + k, none⟩ = some (.int .u8 x) ∧ 0 ≤ x ∧ x < 256
theorem BytesAt.keep {w w' : World} {oa : Option Addr} {n : Nat} (h : BytesAt w oa n) (hb : Below w.heap.size w w') : BytesAt w' oa n :=
  ⟨fun h0 => by
    obtain ⟨b, off, e, hlt, hc⟩ := h.at_ h0
    exact ⟨b, off, e, Nat.lt_of_lt_of_le hlt hb.size, fun k hk => by rw [hb.cell (p := ⟨b, off + k, none⟩) hlt]; exact hc k hk⟩⟩
def InBytes (w : World) (v : Value) : Prop := ∃ (oa : Option Addr) (len cap : Nat), v = .slice oa len cap ∧ len ≤ maxLen ∧ BytesAt w oa len
theorem open_bytes {H : Type} {enc : TypeId × Value → H} {W : World} {base : Nat} {held : Bool} {v : Value} {d : DataW H} {ps : List MemPlace} (hok : Value.okWide Try.prog W .any base 52 v)
    (h : DataW.Trod enc Try.prog W 0 (fun _ => true) held 52 v d ps) : InBytes W v := by
  obtain ⟨a0, len0, cap0, rfl⟩ := okWide_slice Try.underlying52 hok
  obtain ⟨fuel, hf⟩ := h
  rcases Go.ChangeShapes.open_ints Try.underlying52 Try.underlying5 (by kernel_rfl) hf with ⟨hcs, _⟩ | ⟨x, l, c, zs, hcs, _, hl, hm, hz, _, hcell, hwz⟩
  · simp [Value.cells] at hcs
    obtain ⟨rfl, rfl, rfl⟩ := hcs
    exact ⟨_, _, _, rfl, Nat.zero_le _, ⟨fun h => absurd h (by simp)⟩⟩
  · simp [Value.cells] at hcs
    obtain ⟨rfl, rfl, rfl⟩ := hcs
    refine ⟨_, _, _, rfl, Nat.le_trans hl hm, ⟨fun h0 => ?_⟩⟩
    have hz' : zs.length = cap0 := by simpa using hz
    obtain ⟨b, off, spot⟩ := x
    have hc := hcell 0 (by omega)
    have hspot : spot = none := by simpa [Addr.add] using World.cell?_spot hc
    subst hspot
    refine ⟨b, off, rfl, World.block_lt_of_cell? W ⟨b, off, none⟩ (by simpa [Addr.add] using hc), fun k hk => ?_⟩
    have hk' : k < zs.length := by omega
    have := hcell k hk'
    have e : (⟨b, off, none⟩ : Addr).add k = ⟨b, off + k, none⟩ := by unfold Addr.add; split <;> simp_all
    rw [e] at this
    have hw := hwz (zs.getD k 0) (by rw [List.getD_eq_getElem?_getD, List.getElem?_eq_getElem hk']; exact List.getElem_mem hk')
    refine ⟨_, this, ?_⟩
    generalize zs.getD k 0 = z at *
    have hw' : (decide (IntKind.u8.min ≤ z) && decide (z ≤ IntKind.u8.max)) = true := hw
    rw [show IntKind.u8.min = 0 from rfl, show IntKind.u8.max = 255 from rfl, Bool.and_eq_true, decide_eq_true_eq, decide_eq_true_eq] at hw'
    omega
end Go.Proofs.Ytjbmpnbfiahdhaa
namespace Go.Proofs.Ytjbmpnbfiahdhaa
open Go.RowKit
set_option linter.unusedVariables false
set_option maxRecDepth 100000

/-- Block g is a cursor. -/
def Cur (w : World) (g : Nat) : Prop := ∃ (oa : Option Addr) (n cap i : Nat) (h : Int), Blk w g #[.slice oa n cap, .int .i64 i, .int .i64 h] 156 ∧ i ≤ n ∧ n ≤ 1048576 ∧ BytesAt w oa n ∧ (0 < n → ∀ a, oa = some a → a.block < g)
theorem Cur.lt {w : World} {g : Nat} (h : Cur w g) : g < w.heap.size := by obtain ⟨_, _, _, _, _, h, _⟩ := h; exact h.lt
theorem BytesAt.grown {w w' : World} {oa : Option Addr} {n : Nat} {row : Option Nat} (h : BytesAt w oa n) (hg : w.grownBy w' row) (hne : 0 < n → ∀ a, oa = some a → some a.block ≠ row) : BytesAt w' oa n :=
  ⟨fun h0 => by
    obtain ⟨b, off, e, hlt, hc⟩ := h.at_ h0
    exact ⟨b, off, e, Nat.lt_of_lt_of_le hlt hg.size, fun k hk => by rw [World.cell?_of_block (hg.block b hlt (hne h0 _ e))]; exact hc k hk⟩⟩
theorem Cur.keep {w w' : World} {g : Nat} (h : Cur w g) (hb : Below w.heap.size w w') : Cur w' g := by
  obtain ⟨oa, n, cap, i, x, h1, h2, h3, h4, h5⟩ := h
  exact ⟨oa, n, cap, i, x, h1.keep hb, h2, h3, h4.keep hb, h5⟩
theorem Blk.gr {a b : World} {g : Nat} {c : Array Value} {T : TypeId} {row : Option Nat} (h : Blk a g c T) (hg : a.grownBy b row) (hne : some g ≠ row) : Blk b g c T := (hg.block g h.lt hne).trans h
/-- What the call made behind the cursor may turn. -/
theorem Cur.grown {w w' : World} {g : Nat} {row : Option Nat} (h : Cur w g) (hg : w.grownBy w' row) (hr : ∀ k, row = some k → g < k) : Cur w' g := by
  obtain ⟨oa, n, cap, i, x, h1, h2, h3, h4, h5⟩ := h
  refine ⟨oa, n, cap, i, x, h1.gr hg (fun e => by have := hr g e.symm; omega), h2, h3, h4.grown hg (fun h0 a e e' => ?_), h5⟩
  have := h5 h0 a e
  have := hr _ e'.symm
  omega
theorem and255 (x : Int) : 0 ≤ bits BinOp.and .i64 x 255 ∧ bits BinOp.and .i64 x 255 < 256 := by
  unfold bits
  have h : ∀ b : BitVec 64, (b &&& BitVec.ofInt 64 255).toNat < 256 := fun b => by
    rw [BitVec.toNat_and]
    exact Nat.lt_of_le_of_lt Nat.and_le_right (by decide)
  have := h (BitVec.ofInt 64 x)
  have e : ∀ n : Nat, n < 256 → IntKind.i64.wrap (n : Int) = n := fun n hn => by
    unfold IntKind.wrap
    simp [IntKind.bits, IntKind.signed]
    omega
  show 0 ≤ IntKind.i64.wrap ((BitVec.ofInt 64 x &&& BitVec.ofInt 64 255).toNat : Int) ∧ IntKind.i64.wrap ((BitVec.ofInt 64 x &&& BitVec.ofInt 64 255).toNat : Int) < 256
  rw [e _ this]
  omega
set_option maxHeartbeats 800000 in
theorem c_l1Byte (g : Nat) (w : World) (hc : Cur w g) :
    Calls Try.prog 170 #[.pointer (some ⟨g, 0, none⟩)] w fun e w' => ∃ x : Int, e = .returned (.int .i64 x) ∧ 0 ≤ x ∧ x < 256 ∧ Cur w' g ∧ w.grownBy w' (some g) := by
  obtain ⟨oa, n, cap, i, h, k, hi, hn, hB, hlo⟩ := hc
  have k2 := k.cell 2 (.int .i64 h) rfl
  have f2 := k.free 2
  have HI : Hid (i ≤ n) := hi
  clear hi
  go_enter Try.func170, Try.ntmps170
  go_wp2_with fail
  have kk : Blk _ g #[.slice oa n cap, .int .i64 i, .int .i64 (wrap64 (wrap64 (h * 6364136223846793005) + 1442695040888963407))] 156 := k.set 2 (.int .i64 (wrap64 (wrap64 (h * 6364136223846793005) + 1442695040888963407)))
  have hg := grown_set w g 2 (.int .i64 (wrap64 (wrap64 (h * 6364136223846793005) + 1442695040888963407)))
  clear k k2 f2
  generalize wrap64 (wrap64 (h * 6364136223846793005) + 1442695040888963407) = h2 at *
  have s2 := kk.cell 2 (.int .i64 h2) rfl
  (refine wp_region_after (by kernel_rfl) (by kernel_rfl) ?_; have q_s2 := fun (x : After _) => cell_keep s2 x.bel; (repeat (go_big_quiet_step (fail))); clear q_s2; refine wpQuiet_nil ?_; rintro _ ⟨⟨w1, hbn⟩, rfl⟩; (try simp only [After.w]))
  replace kk := kk.keep hbn
  replace hg := grown_trans hg (grown_of_below hbn _)
  clear hbn s2
  have hx := and255 (bits BinOp.xor IntKind.i64 (h2 / 8589934592) (h2 / 35184372088832))
  generalize bits BinOp.and IntKind.i64 (bits BinOp.xor IntKind.i64 (h2 / 8589934592) (h2 / 35184372088832)) 255 = x at *
  obtain ⟨hx0, hx1⟩ := hx
  go_wp2_with fail
  have s0 := kk.cell 0 (.slice oa n cap) rfl
  have s1 := kk.cell 1 (.int .i64 i) rfl
  (refine wp_region_after (by kernel_rfl) (by kernel_rfl) ?_; have q_s0 := fun (x : After _) => cell_keep s0 x.bel; have q_s1 := fun (x : After _) => cell_keep s1 x.bel; (repeat (go_big_quiet_step (fail))); clear q_s0; clear q_s1; refine wpQuiet_nil ?_; rintro _ ⟨⟨w1, hbn⟩, rfl⟩; (try simp only [After.w]))
  replace kk := kk.keep hbn
  replace hg := grown_trans hg (grown_of_below hbn _)
  clear hbn s0 s1
  by_cases hlt : i < n
  · have hB' := hB.grown hg (fun h0 a e e' => by injection e' with e'; have := hlo h0 a e; omega)
    obtain ⟨b, off, rfl, hbs, hcell⟩ := hB'.at_ (by omega)
    obtain ⟨y, hy, hy0, hy1⟩ := hcell i hlt
    have s0 := kk.cell 0 (.slice (some ⟨b, off, none⟩) n cap) rfl
    have s1 := kk.cell 1 (.int .i64 i) rfl
    clear hcell
    go_wp2_with fail
    (refine wp_region_after (by kernel_rfl) (by kernel_rfl) ?_; have q_s0 := fun (x : After _) => cell_keep s0 x.bel; have q_s1 := fun (x : After _) => cell_keep s1 x.bel; have q_hy := fun (x : After _) => cell_keep hy x.bel; (repeat (go_big_quiet_step (fail))); clear q_s0; clear q_s1; clear q_hy; refine wpQuiet_nil ?_; rintro _ ⟨⟨w1, hbn⟩, rfl⟩; (try simp only [After.w]))
    replace kk := kk.keep hbn
    replace hg := grown_trans hg (grown_of_below hbn _)
    clear hbn s0 s1 hy
    have hz := and255 (x + y)
    generalize bits BinOp.and IntKind.i64 (x + y) 255 = z at *
    obtain ⟨hz0, hz1⟩ := hz
    have s1 := kk.cell 1 (.int .i64 i) rfl
    have f1 := kk.free 1
    have k2 : Blk _ g #[.slice (some ⟨b, off, none⟩) n cap, .int .i64 ((i : Int) + 1), .int .i64 h2] 156 := kk.set 1 (.int .i64 ((i : Int) + 1))
    have hg2 := grown_trans hg (grown_set _ g 1 (.int .i64 ((i : Int) + 1)))
    have hB2 := hB.grown hg2 (fun h0 a e e' => by injection e' with e'; have := hlo h0 a e; omega)
    clear hB' hg kk
    go_wp2
    go_ret
    exact ⟨z, rfl, hz0, hz1, ⟨_, n, cap, i + 1, h2, k2, by omega, hn, hB2, hlo⟩, hg2⟩
  · have HE : Hid (i = n) := by have := HI.out; show i = n; omega
    go_wp2
    go_ret
    exact ⟨x, rfl, hx0, hx1, ⟨oa, n, cap, i, h2, kk, HI.out, hn, hB.grown hg (fun h0 a e e' => by injection e' with e'; have := hlo h0 a e; omega), hlo⟩, hg⟩
end Go.Proofs.Ytjbmpnbfiahdhaa
namespace Go.Proofs.Ytjbmpnbfiahdhaa
open Go.RowKit
set_option linter.unusedVariables false
set_option maxRecDepth 100000

theorem tmod_in {x n : Int} (h0 : 0 ≤ x) (hn : 0 < n) : 0 ≤ x.tmod n ∧ x.tmod n < n := by
  rw [Int.tmod_eq_emod_of_nonneg h0]
  exact ⟨Int.emod_nonneg _ (by omega), Int.emod_lt_of_pos _ hn⟩
set_option maxHeartbeats 800000 in
theorem c_l1Below (g : Nat) (n : Int) (hn : n ≤ 256) (w : World) (hc : Cur w g) :
    Calls Try.prog 115 #[.pointer (some ⟨g, 0, none⟩), .int .i64 n] w fun e w' => ∃ x : Int, e = .returned (.int .i64 x) ∧ 0 ≤ x ∧ (0 < n → x < n) ∧ (n ≤ 0 → x = 0) ∧ Cur w' g ∧ w.grownBy w' (some g) := by
  by_cases h0 : n ≤ 0
  · go_enter Try.func115, Try.ntmps115
    go_wp2
    go_ret
    exact ⟨0, rfl, by omega, by omega, fun _ => rfl, hc, grown_refl _ _⟩
  · have hne : n ≠ 0 := by omega
    have hne1 : n ≠ -1 := by omega
    go_enter Try.func115, Try.ntmps115
    go_wp2_with fail
    refine (c_l1Byte g _ hc).mono ?_
    rintro e w1 ⟨x, rfl, hx0, hx1, hc1, hg⟩
    have hm0 := Int.emod_nonneg x hne
    have hm1 := Int.emod_lt_of_pos x (show 0 < n by omega)
    clear hc
    go_wp2
    go_ret
    exact ⟨x % n, rfl, hm0, fun _ => hm1, fun h => by omega, hc1, hg⟩
theorem c_l1Once (g : Nat) (n : Int) (hn : n ≤ 256) (w : World) (hc : Cur w g) :
    Calls Try.prog 113 #[.pointer (some ⟨g, 0, none⟩), .int .i64 n] w fun e w' => ∃ b : Bool, e = .returned (.bool b) ∧ Cur w' g ∧ w.grownBy w' (some g) := by
  go_enter Try.func113, Try.ntmps113
  go_wp2_with fail
  refine (c_l1Below g n hn _ hc).mono ?_
  rintro e w1 ⟨x, rfl, _, _, _, hc1, hg⟩
  clear hc
  go_wp2
  go_ret
  exact ⟨_, rfl, hc1, hg⟩
theorem IntsAt.grown {w w' : World} {oa : Option Addr} {L : List Int} {row : Option Nat} (h : IntsAt w oa L) (hg : w.grownBy w' row) (hne : ∀ a, oa = some a → some a.block ≠ row) : IntsAt w' oa L :=
  ⟨h.len, fun h0 => by
    obtain ⟨b, off, e, hlt, hc⟩ := h.at_ h0
    exact ⟨b, off, e, Nat.lt_of_lt_of_le hlt hg.size, fun k hk => by rw [World.cell?_of_block (hg.block b hlt (hne _ e))]; exact hc k hk⟩⟩
theorem c_l1PickInt (g : Nat) (oa) (cap : Nat) (L : List Int) (h0 : 0 < L.length) (hl : L.length ≤ 256) (w : World) (hc : Cur w g) (hL : IntsAt w oa L) (hne : ∀ a, oa = some a → a.block ≠ g) :
    Calls Try.prog 169 #[.pointer (some ⟨g, 0, none⟩), .slice oa L.length cap] w fun e w' => ∃ x : Int, e = .returned (.int .i64 x) ∧ x ∈ L ∧ Cur w' g ∧ w.grownBy w' (some g) := by
  go_enter Try.func169, Try.ntmps169
  go_wp2_with fail
  refine (c_l1Below g L.length (by omega) _ hc).mono ?_
  rintro e w1 ⟨x, rfl, hx0, hx1, _, hc1, hg⟩
  obtain ⟨k, rfl⟩ := Int.eq_ofNat_of_zero_le hx0
  have hk : k < L.length := by have := hx1 (by omega); omega
  replace hL := hL.grown hg (fun a e e' => hne a e (by injection e'))
  obtain ⟨b, off, rfl, hbs, hcell⟩ := hL.at_ (by omega)
  have h1 := hcell k hk
  have HM : Hid (nth L k ∈ L) := List.mem_iff_getElem?.2 ⟨k, nth_eq hk⟩
  clear hcell hx1 hc hne hL
  go_wp2
  go_ret
  exact ⟨_, rfl, HM.out, hc1, hg⟩
/-- A literal list of ints behind the cursor. -/
theorem lit_ints (w : World) (cs : Array Value) (L : List Int) (hl : L.length ≤ 100) (hcs : ∀ k, k < L.length → cs[k]? = some (.int .i64 (nth L k))) (T : TypeId) : IntsAt (w.alloc (.cells cs T)) (some ⟨w.heap.size, 0, none⟩) L :=
  ⟨by unfold Room; omega, fun _ => ⟨w.heap.size, 0, rfl, by simp, fun k hk => by rw [Nat.zero_add]; simp only [World.cell?, heap_alloc_new]; exact hcs k hk⟩⟩
theorem cur_alloc {w : World} {g : Nat} (h : Cur w g) (o : Obj) : Cur (w.alloc o) g := h.keep ((Below.refl _ _).alloc (Nat.le_refl _) o)
theorem grown_alloc {w w' : World} {row : Option Nat} {o : Obj} (h : (w.alloc o).grownBy w' row) : w.grownBy w' row := grown_trans (grown_of_below ((Below.refl _ _).alloc (Nat.le_refl _) o) row) h
theorem c_l2Any (g : Nat) (w : World) (hc : Cur w g) :
    Calls Try.prog 114 #[.pointer (some ⟨g, 0, none⟩)] w fun e w' => ∃ x : Int, e = .returned (.int .i64 x) ∧ -1 ≤ x ∧ x ≤ 33 ∧ Cur w' g ∧ w.grownBy w' (some g) := by
  go_enter Try.func114, Try.ntmps114
  go_wp2_with fail
  refine (c_l1Once g 8 (by omega) _ hc).mono ?_
  rintro e w1 ⟨t, rfl, hc1, hg⟩
  clear hc
  cases t
  · go_wp2_with fail
    refine (c_l1Below g 32 (by omega) _ hc1).mono ?_
    rintro e w2 ⟨x, rfl, hx0, hx1, _, hc2, hg2⟩
    have h32 := hx1 (by omega)
    replace hg := grown_trans hg hg2
    clear hc1 hg2 hx1
    go_wp2
    go_ret
    exact ⟨x, rfl, by omega, by omega, hc2, hg⟩
  · have hL := fun T => lit_ints w1 #[.int .i64 (-1), .int .i64 31, .int .i64 32, .int .i64 33] [-1, 31, 32, 33] (by simp) (fun k hk => by match k, hk with | 0, _ => rfl | 1, _ => rfl | 2, _ => rfl | 3, _ => rfl) T
    have hlt := hc1.lt
    go_wp2_with fail
    refine (c_l1PickInt g _ 4 [-1, 31, 32, 33] (by simp) (by simp) _ (cur_alloc hc1 _) (hL _) (fun a e => by injection e with e; subst e; simp; omega)).mono ?_
    rintro e w2 ⟨x, rfl, hx, hc2, hg2⟩
    replace hg := grown_trans hg (grown_alloc hg2)
    have hx2 : -1 ≤ x ∧ x ≤ 33 := by simp at hx; omega
    clear hc1 hg2 hL hx
    go_wp2
    go_ret
    exact ⟨x, rfl, hx2.1, hx2.2, hc2, hg⟩
end Go.Proofs.Ytjbmpnbfiahdhaa
namespace Go.Proofs.Ytjbmpnbfiahdhaa
open Go.RowKit
set_option linter.unusedVariables false
set_option maxRecDepth 100000

set_option maxHeartbeats 800000 in
theorem c_l1New (oa) (n cap : Nat) (hn : n ≤ 1048576) (w : World) (hB : BytesAt w oa n) :
    Calls Try.prog 111 #[.slice oa n cap] w fun e w' => e = .returned (.pointer (some ⟨w.heap.size, 0, none⟩)) ∧ Cur w' w.heap.size ∧ Below w.heap.size w w' := by
  go_enter Try.func111, Try.ntmps111
  go_wp2
  go_loop [3, 4] (fun h i => ∃ (x : Int) (k : Nat), h = .int .i64 x ∧ i = .int .i64 k ∧ k ≤ n) (fun _ i => n - (intOf i).toNat)
  case atStart => exact ⟨_, 0, rfl, rfl, Nat.zero_le _⟩
  case round =>
    obtain ⟨x, k, rfl, rfl, hk⟩ := hrel
    by_cases hlt : k < n
    · by_cases h4 : (k : Int) < 4000
      · obtain ⟨b, off, rfl, hbs, hc⟩ := hB.at_ (by omega)
        obtain ⟨y, hy, hy0, hy1⟩ := hc k hlt
        clear hc hB
        go_wp2
        go_round
        case rel => exact ⟨_, k + 1, rfl, by go_num, by omega⟩
        case measure => simp [intOf]; omega
      · go_wp2
        go_ret
        exact ⟨rfl, ⟨oa, n, cap, 0, x, Blk.new w _ _, Nat.zero_le _, hn, hB.keep ((Below.refl _ _).alloc (Nat.le_refl _) _), fun h0 a e => by obtain ⟨b, off, e', hlt, _⟩ := hB.at_ h0; rw [e] at e'; injection e' with e'; rw [e']; exact hlt⟩, (Below.refl _ _).alloc (Nat.le_refl _) _⟩
    · have hkk : k = n := by omega
      have HK : Hid (k = n) := hkk
      clear hkk
      go_wp2
      go_ret
      exact ⟨rfl, ⟨oa, n, cap, 0, x, Blk.new w _ _, Nat.zero_le _, hn, hB.keep ((Below.refl _ _).alloc (Nat.le_refl _) _), fun h0 a e => by obtain ⟨b, off, e', hlt, _⟩ := hB.at_ h0; rw [e] at e'; injection e' with e'; rw [e']; exact hlt⟩, (Below.refl _ _).alloc (Nat.le_refl _) _⟩
/-- Whatever was made before the cursor's own turns lies as it lay. -/
theorem Blk.cur {w w' : World} {k g : Nat} {c : Array Value} {T : TypeId} (h : Blk w k c T) (hg : w.grownBy w' (some g)) (hne : k ≠ g) : Blk w' k c T := h.gr hg (fun e => hne (by injection e))
theorem grown_new {w w2 : World} {g k j : Nat} {v : Value} (hG : w.grownBy w2 (some g)) (hk : w.heap.size ≤ k) : w.grownBy (w2.setCell ⟨k, j, none⟩ v) (some g) :=
  ⟨hG.os, hG.tape, hG.output, by have := hG.size; simpa using this, fun i hi hne => (Below.heap_setCell w2 ⟨k, j, none⟩ v i (by show i ≠ k; omega)).trans (hG.block i hi hne)⟩
theorem Cur.set {w : World} {g k j : Nat} {v : Value} (h : Cur w g) (hk : g < k) : Cur (w.setCell ⟨k, j, none⟩ v) g := h.grown (grown_set w k j v) (fun i e => by injection e with e; omega)
set_option maxHeartbeats 800000 in
theorem c_l6Dep (g : Nat) (N : Nat) (h5 : N ≤ 5) (w : World) (hc : Cur w g) :
    Calls Try.prog 177 #[.pointer (some ⟨g, 0, none⟩), .int .i64 N] w fun e w' => ∃ l r : Int, e = .returned (.agg #[.int .i64 l, .int .i64 r]) ∧ Cur w' g ∧ w.grownBy w' (some g) := by
  have hp := pow_wrap (n := (N : Int)) (by omega) (by omega)
  simp only [Int.toNat_natCast] at hp
  have hp1 := hp.1
  have hp2 := hp.2.1
  clear hp
  have hlt := hc.lt
  have kZ := Blk.new w #[.int .i64 0, .int .i64 0] 55
  have hG := grown_of_below ((Below.refl w.heap.size w).alloc (Nat.le_refl _) (.cells #[.int .i64 0, .int .i64 0] 55)) (some g)
  replace hc := cur_alloc hc (.cells #[.int .i64 0, .int .i64 0] 55)
  go_enter Try.func177, Try.ntmps177
  go_wp2_with fail
  refine (c_l1Below g (2 ^ N) (by omega) _ hc).mono ?_
  rintro e w1 ⟨x, rfl, _, _, _, hc1, hg⟩
  replace kZ := kZ.cur hg (by omega)
  replace hG := grown_trans hG hg
  clear hc hg
  go_wp2_with fail
  refine (c_l1Below g N (by omega) _ hc1).mono ?_
  rintro e w2 ⟨y, rfl, _, _, _, hc2, hg⟩
  replace kZ := kZ.cur hg (by omega)
  replace hG := grown_trans hG hg
  clear hc1 hg
  have z0 := kZ.cell 0 (.int .i64 0) rfl
  have z1 := kZ.cell 1 (.int .i64 0) rfl
  have f0 := kZ.free 0
  have f1 := kZ.free 1
  go_wp2
  exact bodyPost_ret (v := .agg #[.int .i64 x, .int .i64 y]) (by simp [results, Try.results177, go_sem, z0, z1]) rfl ⟨x, y, rfl, (hc2.set hlt).set hlt, grown_new (grown_new hG (Nat.le_refl _)) (Nat.le_refl _)⟩
set_option maxHeartbeats 1600000 in
theorem c_l6Any (g : Nat) (n : Int) (w : World) (hc : Cur w g) :
    Calls Try.prog 128 #[.pointer (some ⟨g, 0, none⟩), .int .i64 n] w fun e w' => ∃ l r : Int, e = .returned (.agg #[.int .i64 l, .int .i64 r]) ∧ Cur w' g ∧ w.grownBy w' (some g) := by
  have hlt := hc.lt
  have kZ := Blk.new w #[.int .i64 0, .int .i64 0] 55
  have hG := grown_of_below ((Below.refl w.heap.size w).alloc (Nat.le_refl _) (.cells #[.int .i64 0, .int .i64 0] 55)) (some g)
  replace hc := cur_alloc hc (.cells #[.int .i64 0, .int .i64 0] 55)
  cases hin : inB n 1 5
  · go_enter Try.func128, Try.ntmps128
    go_wp2_with fail
    refine Calls.mono (Ans.eqb (c_l1In _ _ _ _) hin) ?_
    rintro e w1 ⟨rfl, hbn⟩
    replace kZ := kZ.keep hbn
    replace hc := hc.keep hbn
    replace hG := grown_trans hG (grown_of_below hbn _)
    clear hbn
    go_wp2_with fail
    refine (c_l6Dep g 3 (by omega) _ hc).mono ?_
    rintro e w2 ⟨l, r, rfl, hc2, hg⟩
    replace kZ := kZ.cur hg (by omega)
    replace hG := grown_trans hG hg
    clear hc hg
    have kD := Blk.new w2 #[.int .i64 l, .int .i64 r] 55
    have hl2 := kZ.lt
    replace kZ := kZ.alloc (.cells #[.int .i64 l, .int .i64 r] 55)
    replace hc2 := cur_alloc hc2 (.cells #[.int .i64 l, .int .i64 r] 55)
    replace hG := grown_trans hG (grown_of_below ((Below.refl w2.heap.size w2).alloc (Nat.le_refl _) (.cells #[.int .i64 l, .int .i64 r] 55)) (some g))
    go_wp2_with fail
    refine (c_l1Below g 14 (by omega) _ hc2).mono ?_
    rintro e w3 ⟨q, rfl, _, _, _, hc3, hg⟩
    replace kZ := kZ.cur hg (by omega)
    replace kD := kD.cur hg (by omega)
    replace hG := grown_trans hG hg
    clear hc2 hg
    by_cases e0 : q = 0
    · go_wp2_with fail
      refine (c_l2Any g _ hc3).mono ?_
      rintro e w4 ⟨x, rfl, _, _, hc4, hg⟩
      replace kZ := kZ.cur hg (by omega)
      replace kD := kD.cur hg (by omega)
      replace hG := grown_trans hG hg
      clear hc3 hg
      have d0 := kD.cell 0 (.int .i64 l) rfl
      have d1 := kD.cell 1 (.int .i64 r) rfl
      have e0' := kD.free 0
      have z0 := kZ.cell 0 (.int .i64 0) rfl
      have z1 := kZ.cell 1 (.int .i64 0) rfl
      have f0 := kZ.free 0
      have f1 := kZ.free 1
      have kD2 : Blk _ w2.heap.size #[.int .i64 x, .int .i64 r] 55 := kD.set 0 (.int .i64 x)
      have kZ2 := kZ.far ⟨w2.heap.size, 0, none⟩ (.int .i64 x) (by simp; omega)
      have y0 := kD2.cell 0 (.int .i64 x) rfl
      have y1 := kD2.cell 1 (.int .i64 r) rfl
      have v0 := kZ2.cell 0 (.int .i64 0) rfl
      have v1 := kZ2.cell 1 (.int .i64 0) rfl
      have g0 := kZ2.free 0
      have g1 := kZ2.free 1
      have hc5 := Cur.set (j := 0) (v := .int .i64 x) hc4 (show g < w2.heap.size by omega)
      have hG5 := grown_new (j := 0) (v := .int .i64 x) hG (show w.heap.size ≤ w2.heap.size by omega)
      go_wp2
      exact bodyPost_ret (v := .agg #[.int .i64 x, .int .i64 r]) (by simp [results, Try.results128, go_sem, v0, v1]) rfl ⟨x, r, rfl, (hc5.set hlt).set hlt, grown_new (grown_new hG5 (Nat.le_refl _)) (Nat.le_refl _)⟩
    · by_cases e1 : q = 1
      · have hL := fun T => lit_ints w3 #[.int .i64 (-1), .int .i64 4, .int .i64 5] [-1, 4, 5] (by simp) (fun k hk => by match k, hk with | 0, _ => rfl | 1, _ => rfl | 2, _ => rfl) T
        have hlt3 := hc3.lt
        go_wp2_with fail
        refine (c_l1PickInt g _ 3 [-1, 4, 5] (by simp) (by simp) _ (cur_alloc hc3 _) (hL _) (fun a e => by injection e with e; subst e; simp; omega)).mono ?_
        rintro e w4 ⟨x, rfl, _, hc4, hg⟩
        replace hg := grown_alloc hg
        replace kZ := kZ.cur hg (by omega)
        replace kD := kD.cur hg (by omega)
        replace hG := grown_trans hG hg
        clear hc3 hg hL
        have d0 := kD.cell 0 (.int .i64 l) rfl
        have d1 := kD.cell 1 (.int .i64 r) rfl
        have e0' := kD.free 1
        have kD2 : Blk _ w2.heap.size #[.int .i64 l, .int .i64 x] 55 := kD.set 1 (.int .i64 x)
        have kZ2 := kZ.far ⟨w2.heap.size, 1, none⟩ (.int .i64 x) (by simp; omega)
        have y0 := kD2.cell 0 (.int .i64 l) rfl
        have y1 := kD2.cell 1 (.int .i64 x) rfl
        have v0 := kZ2.cell 0 (.int .i64 0) rfl
        have v1 := kZ2.cell 1 (.int .i64 0) rfl
        have g0 := kZ2.free 0
        have g1 := kZ2.free 1
        have hc5 := Cur.set (j := 1) (v := .int .i64 x) hc4 (show g < w2.heap.size by omega)
        have hG5 := grown_new (j := 1) (v := .int .i64 x) hG (show w.heap.size ≤ w2.heap.size by omega)
        go_wp2
        exact bodyPost_ret (v := .agg #[.int .i64 l, .int .i64 x]) (by simp [results, Try.results128, go_sem, v0, v1]) rfl ⟨l, x, rfl, (hc5.set hlt).set hlt, grown_new (grown_new hG5 (Nat.le_refl _)) (Nat.le_refl _)⟩
      · have d0 := kD.cell 0 (.int .i64 l) rfl
        have d1 := kD.cell 1 (.int .i64 r) rfl
        have z0 := kZ.cell 0 (.int .i64 0) rfl
        have z1 := kZ.cell 1 (.int .i64 0) rfl
        have f0 := kZ.free 0
        have f1 := kZ.free 1
        go_wp2
        exact bodyPost_ret (v := .agg #[.int .i64 l, .int .i64 r]) (by simp [results, Try.results128, go_sem, z0, z1]) rfl ⟨l, r, rfl, (hc3.set hlt).set hlt, grown_new (grown_new hG (Nat.le_refl _)) (Nat.le_refl _)⟩
  · obtain ⟨N, rfl⟩ := Int.eq_ofNat_of_zero_le (show 0 ≤ n by unfold inB at hin; simp at hin; omega)
    have hN : N ≤ 5 := by unfold inB at hin; simp at hin; omega
    go_enter Try.func128, Try.ntmps128
    go_wp2_with fail
    refine Calls.mono (Ans.eqb (c_l1In _ _ _ _) hin) ?_
    rintro e w1 ⟨rfl, hbn⟩
    replace kZ := kZ.keep hbn
    replace hc := hc.keep hbn
    replace hG := grown_trans hG (grown_of_below hbn _)
    clear hbn
    go_wp2_with fail
    refine (c_l6Dep g N (by omega) _ hc).mono ?_
    rintro e w2 ⟨l, r, rfl, hc2, hg⟩
    replace kZ := kZ.cur hg (by omega)
    replace hG := grown_trans hG hg
    clear hc hg
    have kD := Blk.new w2 #[.int .i64 l, .int .i64 r] 55
    have hl2 := kZ.lt
    replace kZ := kZ.alloc (.cells #[.int .i64 l, .int .i64 r] 55)
    replace hc2 := cur_alloc hc2 (.cells #[.int .i64 l, .int .i64 r] 55)
    replace hG := grown_trans hG (grown_of_below ((Below.refl w2.heap.size w2).alloc (Nat.le_refl _) (.cells #[.int .i64 l, .int .i64 r] 55)) (some g))
    go_wp2_with fail
    refine (c_l1Below g 14 (by omega) _ hc2).mono ?_
    rintro e w3 ⟨q, rfl, _, _, _, hc3, hg⟩
    replace kZ := kZ.cur hg (by omega)
    replace kD := kD.cur hg (by omega)
    replace hG := grown_trans hG hg
    clear hc2 hg
    by_cases e0 : q = 0
    · go_wp2_with fail
      refine (c_l2Any g _ hc3).mono ?_
      rintro e w4 ⟨x, rfl, _, _, hc4, hg⟩
      replace kZ := kZ.cur hg (by omega)
      replace kD := kD.cur hg (by omega)
      replace hG := grown_trans hG hg
      clear hc3 hg
      have d0 := kD.cell 0 (.int .i64 l) rfl
      have d1 := kD.cell 1 (.int .i64 r) rfl
      have e0' := kD.free 0
      have z0 := kZ.cell 0 (.int .i64 0) rfl
      have z1 := kZ.cell 1 (.int .i64 0) rfl
      have f0 := kZ.free 0
      have f1 := kZ.free 1
      have kD2 : Blk _ w2.heap.size #[.int .i64 x, .int .i64 r] 55 := kD.set 0 (.int .i64 x)
      have kZ2 := kZ.far ⟨w2.heap.size, 0, none⟩ (.int .i64 x) (by simp; omega)
      have y0 := kD2.cell 0 (.int .i64 x) rfl
      have y1 := kD2.cell 1 (.int .i64 r) rfl
      have v0 := kZ2.cell 0 (.int .i64 0) rfl
      have v1 := kZ2.cell 1 (.int .i64 0) rfl
      have g0 := kZ2.free 0
      have g1 := kZ2.free 1
      have hc5 := Cur.set (j := 0) (v := .int .i64 x) hc4 (show g < w2.heap.size by omega)
      have hG5 := grown_new (j := 0) (v := .int .i64 x) hG (show w.heap.size ≤ w2.heap.size by omega)
      go_wp2
      exact bodyPost_ret (v := .agg #[.int .i64 x, .int .i64 r]) (by simp [results, Try.results128, go_sem, v0, v1]) rfl ⟨x, r, rfl, (hc5.set hlt).set hlt, grown_new (grown_new hG5 (Nat.le_refl _)) (Nat.le_refl _)⟩
    · by_cases e1 : q = 1
      · have hL := fun T => lit_ints w3 #[.int .i64 (-1), .int .i64 4, .int .i64 5] [-1, 4, 5] (by simp) (fun k hk => by match k, hk with | 0, _ => rfl | 1, _ => rfl | 2, _ => rfl) T
        have hlt3 := hc3.lt
        go_wp2_with fail
        refine (c_l1PickInt g _ 3 [-1, 4, 5] (by simp) (by simp) _ (cur_alloc hc3 _) (hL _) (fun a e => by injection e with e; subst e; simp; omega)).mono ?_
        rintro e w4 ⟨x, rfl, _, hc4, hg⟩
        replace hg := grown_alloc hg
        replace kZ := kZ.cur hg (by omega)
        replace kD := kD.cur hg (by omega)
        replace hG := grown_trans hG hg
        clear hc3 hg hL
        have d0 := kD.cell 0 (.int .i64 l) rfl
        have d1 := kD.cell 1 (.int .i64 r) rfl
        have e0' := kD.free 1
        have kD2 : Blk _ w2.heap.size #[.int .i64 l, .int .i64 x] 55 := kD.set 1 (.int .i64 x)
        have kZ2 := kZ.far ⟨w2.heap.size, 1, none⟩ (.int .i64 x) (by simp; omega)
        have y0 := kD2.cell 0 (.int .i64 l) rfl
        have y1 := kD2.cell 1 (.int .i64 x) rfl
        have v0 := kZ2.cell 0 (.int .i64 0) rfl
        have v1 := kZ2.cell 1 (.int .i64 0) rfl
        have g0 := kZ2.free 0
        have g1 := kZ2.free 1
        have hc5 := Cur.set (j := 1) (v := .int .i64 x) hc4 (show g < w2.heap.size by omega)
        have hG5 := grown_new (j := 1) (v := .int .i64 x) hG (show w.heap.size ≤ w2.heap.size by omega)
        go_wp2
        exact bodyPost_ret (v := .agg #[.int .i64 l, .int .i64 x]) (by simp [results, Try.results128, go_sem, v0, v1]) rfl ⟨l, x, rfl, (hc5.set hlt).set hlt, grown_new (grown_new hG5 (Nat.le_refl _)) (Nat.le_refl _)⟩
      · have d0 := kD.cell 0 (.int .i64 l) rfl
        have d1 := kD.cell 1 (.int .i64 r) rfl
        have z0 := kZ.cell 0 (.int .i64 0) rfl
        have z1 := kZ.cell 1 (.int .i64 0) rfl
        have f0 := kZ.free 0
        have f1 := kZ.free 1
        go_wp2
        exact bodyPost_ret (v := .agg #[.int .i64 l, .int .i64 r]) (by simp [results, Try.results128, go_sem, z0, z1]) rfl ⟨l, r, rfl, (hc3.set hlt).set hlt, grown_new (grown_new hG (Nat.le_refl _)) (Nat.le_refl _)⟩
end Go.Proofs.Ytjbmpnbfiahdhaa
namespace Go.Proofs.Ytjbmpnbfiahdhaa
open Go.RowKit
theorem heap_two (w : World) (o1 o2 : Obj) : ((w.alloc o1).alloc o2).heap[w.heap.size + 1]? = some o2 := by
  have := heap_alloc_new (w.alloc o1) o2
  rwa [World.size_alloc] at this
end Go.Proofs.Ytjbmpnbfiahdhaa
namespace Go.Proofs.Ytjbmpnbfiahdhaa
open Go.RowKit
set_option linter.unusedVariables false
set_option maxRecDepth 100000

def redStep (D : List (Int × Int)) (r x c : Int) : Int := if dif x (one c) != x && hasc (cloF D (dif x (one c))) r then dif x (one c) else x
def fiveI : List Int := [0, 1, 2, 3, 4]
def redF (D : List (Int × Int)) (l r : Int) : Int := fiveI.foldl (redStep D r) l
def reduceF (n : Int) (D : List (Int × Int)) (l r : Int) : Int := if impliesDepF n D l r then redF D l r else l

theorem redStep_st {D : List (Int × Int)} {r x c : Int} (hx : St x) (hc : Co c) : St (redStep D r x c) := by
  unfold redStep; split
  · exact dif_st hx (one_st hc)
  · exact hx
theorem dif_one_same {x c : Int} (hx : St x) (hc : Co c) : (dif x (one c) != x) = hasc x c := by
  obtain ⟨n, hn, rfl⟩ := st_nat hx; obtain ⟨k, hk, rfl⟩ := co_nat hc
  have h : ∀ n < 32, ∀ k < 5, (dif (n : Nat) (one (k : Nat)) != (n : Nat)) = hasc (n : Nat) (k : Nat) := by decide +kernel
  exact h n hn k hk
theorem redStep_no {D : List (Int × Int)} {r x c : Int} (hx : St x) (hc : Co c) (h : hasc x c = false) : redStep D r x c = x := by
  unfold redStep; rw [dif_one_same hx hc, h]; simp
theorem redStep_other {D : List (Int × Int)} {r x c e : Int} (hx : St x) (hc : Co c) (he : Co e) (hne : c ≠ e) : hasc (redStep D r x c) e = hasc x e := by
  unfold redStep; split
  · rw [hasc_dif hx (one_st hc) he, hasc_one hc he]
    simp [hne]
  · rfl
theorem impliesDepF_val {n : Int} {D : List (Int × Int)} {l r : Int} (h : impliesDepF n D l r = true) : Val D ∧ St l ∧ Co r := by
  simp only [impliesDepF, Bool.and_eq_true] at h
  have := (isDepF_val h.2.1).1
  exact ⟨(areDepsF_val h.1).1, this.1, this.2⟩

theorem five_drop (k : Nat) (hk : k < 5) (f : Int → Int → Int) (x : Int) : (fiveI.drop k).foldl f x = (fiveI.drop (k + 1)).foldl f (f x k) := by
  match k, hk with
  | 0, _ => rfl
  | 1, _ => rfl
  | 2, _ => rfl
  | 3, _ => rfl
  | 4, _ => rfl

end Go.Proofs.Ytjbmpnbfiahdhaa
namespace Go.Proofs.Ytjbmpnbfiahdhaa
open Go.RowKit
set_option linter.unusedVariables false
set_option maxRecDepth 100000

theorem members_mem {x c : Int} (hx : St x) : c ∈ membersF x ↔ Co c ∧ hasc x c = true := by
  have e : stB x = true := by simpa [stB] using hx
  unfold membersF membersUpTo
  rw [e, if_pos rfl, List.mem_filter, List.mem_map]
  constructor
  · rintro ⟨⟨k, hk, rfl⟩, h⟩
    exact ⟨⟨by omega, by have := List.mem_range.1 hk; omega⟩, h⟩
  · rintro ⟨hc, h⟩
    obtain ⟨k, hk, rfl⟩ := co_nat hc
    exact ⟨⟨k, List.mem_range.2 hk, rfl⟩, h⟩
theorem members_nodup (x : Int) : (membersF x).Nodup := by
  unfold membersF membersUpTo
  split
  · apply List.Pairwise.filter
    rw [show ((List.range 5).map fun (c : Nat) => (c : Int)) = fiveI from rfl]
    decide
  · exact List.Pairwise.nil
theorem fold_filter {D : List (Int × Int)} {r l : Int} : ∀ (cs : List Int) (x : Int), St x → (∀ c ∈ cs, Co c) → cs.Nodup → (∀ c ∈ cs, hasc x c = hasc l c) →
    cs.foldl (redStep D r) x = (cs.filter (hasc l)).foldl (redStep D r) x
  | [], _, _, _, _, _ => rfl
  | c :: cs, x, hx, hco, hnd, h => by
    have hc := hco c (List.mem_cons_self ..)
    have hco' : ∀ d ∈ cs, Co d := fun d hd => hco d (List.mem_cons_of_mem _ hd)
    obtain ⟨hn1, hn2⟩ := List.nodup_cons.1 hnd
    have hst := redStep_st (D := D) (r := r) hx hc
    have hs : ∀ d ∈ cs, hasc (redStep D r x c) d = hasc l d := fun d hd => by
      rw [redStep_other hx hc (hco' d hd) (fun e => hn1 (e ▸ hd))]
      exact h d (List.mem_cons_of_mem _ hd)
    have ih := fold_filter (D := D) (r := r) (l := l) cs _ hst hco' hn2 hs
    rw [List.foldl_cons, List.filter_cons]
    cases hl : hasc l c
    · have e : redStep D r x c = x := redStep_no hx hc (by rw [h c (List.mem_cons_self ..), hl])
      rw [e] at ih ⊢
      exact ih
    · simp only [if_true, List.foldl_cons]
      exact ih
theorem redF_members {D : List (Int × Int)} {l r : Int} (hl : St l) : redF D l r = (membersF l).foldl (redStep D r) l := by
  have e : stB l = true := by simpa [stB] using hl
  have hm : membersF l = fiveI.filter (hasc l) := by unfold membersF membersUpTo; rw [e, if_pos rfl]; rfl
  rw [hm]
  exact fold_filter fiveI l hl (by decide) (by decide) (fun _ _ => rfl)
theorem nth_drop {L : List Int} {k : Nat} (hk : k < L.length) : L.drop k = nth L k :: L.drop (k + 1) := by
  rw [List.drop_eq_getElem_cons hk]
  congr 1
  have := nth_eq hk
  rw [List.getElem?_eq_getElem hk] at this
  exact Option.some.inj this

end Go.Proofs.Ytjbmpnbfiahdhaa
namespace Go.Proofs.Ytjbmpnbfiahdhaa
open Go.RowKit
set_option linter.unusedVariables false
set_option maxRecDepth 100000

def coverBad (n : Int) (D : List (Int × Int)) (i : Nat) : Bool := impliesDepF n (eraD D i) (nl D i) (nr D i) || !(reduceF n D (nl D i) (nr D i) == nl D i)
def isCoverF (n : Int) (D : List (Int × Int)) : Bool := areDepsF n D && (List.range D.length).all fun i => !coverBad n D i
theorem OwnD.cap {w : World} {base : Nat} {v : Value} {L : List (Int × Int)} (h : OwnD w base v L) : ∃ oa cap, v = .slice oa L.length cap ∧ L.length ≤ cap ∧ (oa = none → cap = 0) := by
  rcases h.2 with ⟨hv, h0⟩ | ⟨g, cap, cur, hv, hb, hg, hl, _⟩
  · exact ⟨none, 0, by rw [hv, h0], by omega, fun _ => rfl⟩
  · exact ⟨_, cap, hv, hl, fun h => by cases h⟩
theorem range_all_succ (p : Nat → Bool) (k : Nat) : (List.range (k + 1)).all p = ((List.range k).all p && p k) := by
  rw [List.range_succ, List.all_append]; simp
theorem range_all_false (p : Nat → Bool) (k n : Nat) (hk : k < n) (h : p k = false) : (List.range n).all p = false := by
  rw [List.all_eq_false]; exact ⟨k, List.mem_range.2 hk, by simp [h]⟩
theorem eraD_len {D : List (Int × Int)} {i : Nat} (h : i < D.length) : (eraD D i).length = D.length - 1 := by
  unfold eraD; rw [List.length_append, List.length_take, List.length_drop]; omega

theorem mem_eraD {D : List (Int × Int)} {i : Nat} {d : Int × Int} (h : d ∈ eraD D i) : d ∈ D := by
  unfold eraD at h
  rcases List.mem_append.1 h with h | h
  · exact List.mem_of_mem_take h
  · exact List.mem_of_mem_drop h
theorem nth_mem {D : List (Int × Int)} {k : Nat} (h : k < D.length) : (nl D k, nr D k) ∈ D := List.mem_iff_getElem?.2 ⟨k, dnth_eq h⟩
theorem areDepsF_mem {n : Int} {D : List (Int × Int)} (h : areDepsF n D = true) {d : Int × Int} (hd : d ∈ D) : isDepF n d.1 d.2 = true := by
  simp only [areDepsF, Bool.and_eq_true, decide_eq_true_eq, List.all_eq_true] at h
  exact h.1 d hd
theorem areDepsF_sub {n : Int} {D E : List (Int × Int)} (h : areDepsF n D = true) (hs : ∀ d ∈ E, d ∈ D) (hl : E.length ≤ D.length) : areDepsF n E = true := by
  simp only [areDepsF, Bool.and_eq_true, decide_eq_true_eq, List.all_eq_true] at h ⊢
  exact ⟨fun d hd => h.1 d (hs d hd), h.2.1, by omega⟩
theorem areDepsF_era {n : Int} {D : List (Int × Int)} (h : areDepsF n D = true) {i : Nat} (hi : i < D.length) : areDepsF n (eraD D i) = true :=
  areDepsF_sub h (fun _ hd => mem_eraD hd) (by rw [eraD_len hi]; omega)

end Go.Proofs.Ytjbmpnbfiahdhaa
namespace Go.Proofs.Ytjbmpnbfiahdhaa
open Go.RowKit
set_option linter.unusedVariables false
set_option maxRecDepth 100000

def addF (n : Int) (D A : List (Int × Int)) (d : Int × Int) : List (Int × Int) := if A.contains (reduceF n D d.1 d.2, d.2) then A else A ++ [(reduceF n D d.1 d.2, d.2)]
def dstF (n : Int) (D : List (Int × Int)) (k : Nat) : List (Int × Int) := (D.take k).foldl (addF n D) []
def pruneF (n : Int) : Nat → List (Int × Int) → Nat → List (Int × Int)
  | 0, A, _ => A
  | f + 1, A, i => if i < A.length then (if impliesDepF n (eraD A i) (nl A i) (nr A i) then pruneF n f (eraD A i) i else pruneF n f A (i + 1)) else A
def coverOfF (n : Int) (D : List (Int × Int)) : List (Int × Int) := if areDepsF n D then pruneF n (dstF n D D.length).length (dstF n D D.length) 0 else []
theorem dstF_succ {n : Int} {D : List (Int × Int)} {k : Nat} (hk : k < D.length) : dstF n D (k + 1) = addF n D (dstF n D k) (nl D k, nr D k) := by
  unfold dstF; rw [List.take_add_one, dnth_eq hk, List.foldl_append]; rfl
theorem dstF_len (n : Int) (D : List (Int × Int)) : ∀ k, k ≤ D.length → (dstF n D k).length ≤ k
  | 0, _ => by simp [dstF]
  | k + 1, hk => by
    rw [dstF_succ (by omega)]
    have := dstF_len n D k (by omega)
    unfold addF; split
    · omega
    · simp; omega
theorem dif_leC {x c : Int} (hx : St x) (hc : Co c) : dif x (one c) ≤ x := by
  obtain ⟨n, hn, rfl⟩ := st_nat hx; obtain ⟨k, hk, rfl⟩ := co_nat hc
  have h : ∀ n < 32, ∀ k < 5, dif (n : Nat) (one (k : Nat)) ≤ (n : Nat) := by decide +kernel
  exact h n hn k hk
theorem foldl_le {D : List (Int × Int)} {r : Int} : ∀ (C : List Int) (x : Int), (∀ c ∈ C, Co c) → St x → C.foldl (redStep D r) x ≤ x ∧ St (C.foldl (redStep D r) x)
  | [], x, _, hx => ⟨Int.le_refl x, hx⟩
  | c :: C, x, hC, hx => by
    have hc := hC c (List.mem_cons_self ..)
    have h1 : redStep D r x c ≤ x := by
      unfold redStep; split
      · exact dif_leC hx hc
      · exact Int.le_refl x
    have h2 := foldl_le (D := D) (r := r) C (redStep D r x c) (fun d hd => hC d (List.mem_cons_of_mem _ hd)) (redStep_st hx hc)
    exact ⟨Int.le_trans h2.1 h1, h2.2⟩
theorem five_co : ∀ c ∈ fiveI, Co c := by decide
theorem reduceF_dep {n l r : Int} {D : List (Int × Int)} (h : isDepF n l r = true) : isDepF n (reduceF n D l r) r = true := by
  unfold reduceF
  split
  · have hst := (isDepF_val h).1.1
    have := foldl_le (D := D) (r := r) fiveI l five_co hst
    simp only [isDepF, isAttr, Bool.and_eq_true, decide_eq_true_eq] at h ⊢
    unfold redF
    exact ⟨⟨⟨h.1.1.1, ⟨h.1.1.2.1.1, this.2.1⟩, Int.lt_of_le_of_lt this.1 h.1.1.2.2⟩, h.1.2⟩, h.2⟩
  · exact h
theorem dstF_dep {n : Int} {D : List (Int × Int)} (ha : areDepsF n D = true) : ∀ k, k ≤ D.length → ∀ d ∈ dstF n D k, isDepF n d.1 d.2 = true
  | 0, _, d, hd => by simp [dstF] at hd
  | k + 1, hk, d, hd => by
    rw [dstF_succ (by omega)] at hd
    unfold addF at hd
    split at hd
    · exact dstF_dep ha k (by omega) d hd
    · rcases List.mem_append.1 hd with hd | hd
      · exact dstF_dep ha k (by omega) d hd
      · simp at hd; subst hd
        exact reduceF_dep (areDepsF_mem ha (nth_mem (k := k) (by omega)))
theorem pruneF_end {n : Int} {A : List (Int × Int)} {i : Nat} (h : A.length ≤ i) (f : Nat) : pruneF n f A i = A := by
  cases f with
  | zero => rfl
  | succ f => unfold pruneF; rw [if_neg (by omega)]
theorem pruneF_del {n : Int} {A : List (Int × Int)} {i : Nat} (h : i < A.length) (hi : impliesDepF n (eraD A i) (nl A i) (nr A i) = true) : pruneF n (A.length - i) A i = pruneF n ((eraD A i).length - i) (eraD A i) i := by
  have e : A.length - i = ((eraD A i).length - i) + 1 := by rw [eraD_len h]; omega
  rw [e]; conv => lhs; unfold pruneF
  rw [if_pos h, hi]; rfl
theorem pruneF_keep {n : Int} {A : List (Int × Int)} {i : Nat} (h : i < A.length) (hi : impliesDepF n (eraD A i) (nl A i) (nr A i) = false) : pruneF n (A.length - i) A i = pruneF n (A.length - (i + 1)) A (i + 1) := by
  have e : A.length - i = (A.length - (i + 1)) + 1 := by omega
  rw [e]; conv => lhs; unfold pruneF
  rw [if_pos h, hi]; rfl
theorem contains_succ {A : List (Int × Int)} {k : Nat} (h : k < A.length) (d : Int × Int) : (A.take (k + 1)).contains d = ((A.take k).contains d || (nl A k == d.1 && nr A k == d.2)) := by
  rw [List.take_add_one, dnth_eq h, Bool.eq_iff_iff]
  simp only [Option.toList, List.contains_iff_mem, List.mem_append, List.mem_singleton, Bool.or_eq_true, Bool.and_eq_true, beq_iff_eq, Prod.ext_iff]
  constructor
  · rintro (h | ⟨h1, h2⟩)
    · exact .inl h
    · exact .inr ⟨h1.symm, h2.symm⟩
  · rintro (h | ⟨h1, h2⟩)
    · exact .inl h
    · exact .inr ⟨h1.symm, h2.symm⟩
theorem contains_at {A : List (Int × Int)} {k : Nat} (h : k < A.length) {l r : Int} (h1 : nl A k = l) (h2 : nr A k = r) : A.contains (l, r) = true := by
  subst h1; subst h2
  simp only [List.contains_iff_mem]; exact nth_mem h
def slen : Value → Nat
  | .slice _ n _ => n
  | _ => 0

end Go.Proofs.Ytjbmpnbfiahdhaa
namespace Go.Proofs.Ytjbmpnbfiahdhaa
open Go.RowKit
set_option linter.unusedVariables false
set_option maxRecDepth 100000

theorem OwnD.snoc {w : World} {base : Nat} {v : Value} {A : List (Int × Int)} {l r : Int} (h : w.ownsRow base 55 2 v (A.length + 1) (dcells A ++ [.int .i64 l, .int .i64 r])) : OwnD w base v (A ++ [(l, r)]) := OwnD.joined (B := [(l, r)]) h

end Go.Proofs.Ytjbmpnbfiahdhaa
namespace Go.Proofs.Ytjbmpnbfiahdhaa
open Go.RowKit
set_option linter.unusedVariables false
set_option maxRecDepth 100000

theorem grown_more {w a b : World} {g : Nat} {row : Option Nat} (hG : w.grownBy a (some g)) (hg : a.grownBy b row) (hr : ∀ k, row = some k → w.heap.size ≤ k) : w.grownBy b (some g) :=
  ⟨hg.os.trans hG.os, hg.tape.trans hG.tape, hg.output.trans hG.output, Nat.le_trans hG.size hg.size, fun i hi hne => (hg.block i (Nat.lt_of_lt_of_le hi hG.size) (fun e => by have := hr i e.symm; omega)).trans (hG.block i hi hne)⟩
theorem owns_cur {w w' : World} {B size n g : Nat} {e : TypeId} {v : Value} {xs : List Value} (h : w.ownsRow B e size v n xs) (hg : w.grownBy w' (some g)) (hB : g < B) : w'.ownsRow B e size v n xs :=
  World.ownsRow.kept h hg (.inr fun e => by have := (World.ownsRow.lt h g e).1; omega)
theorem OwnD.cur {w w' : World} {B g : Nat} {v : Value} {D : List (Int × Int)} (h : OwnD w B v D) (hg : w.grownBy w' (some g)) (hB : g < B) : OwnD w' B v D := owns_cur h hg hB
/-- What the cursor has turned lies behind the base. -/
theorem below_cur {w a b : World} {g : Nat} (hb : Below w.heap.size w a) (hg : a.grownBy b (some g)) (hB : w.heap.size ≤ g) : Below w.heap.size w b := hb.grown hg hb.size (fun k e => by injection e with e; omega)
set_option maxHeartbeats 1600000 in
theorem c_l6Deps (g : Nat) (N : Nat) (h5 : N ≤ 5) (w : World) (hc : Cur w g) :
    Calls Try.prog 168 #[.pointer (some ⟨g, 0, none⟩), .int .i64 N] w fun e w' => ∃ o c D, e = .returned (.slice o (D.length : Nat) c) ∧ OwnD w' w.heap.size (.slice o D.length c) D ∧ D.length ≤ 4 ∧ Cur w' g ∧ w.grownBy w' (some g) := by
  obtain ⟨i0, hi0, hz0, hz1, hz2⟩ := info_parts info_dep
  have hlt := hc.lt
  have hI := OwnD.empty w w.heap.size (Nat.le_refl _)
  have hG := grown_of_below ((Below.refl w.heap.size w).alloc (Nat.le_refl _) (.cells #[] 55)) (some g)
  replace hc := cur_alloc hc (.cells #[] 55)
  go_enter Try.func168, Try.ntmps168
  go_wp2_with fail
  refine (c_l1Below g 5 (by omega) _ hc).mono ?_
  rintro e w1 ⟨q, rfl, hq0, hq1, _, hc1, hg⟩
  replace hI := hI.cur hg hlt
  replace hG := grown_trans hG hg
  obtain ⟨k0, rfl⟩ := Int.eq_ofNat_of_zero_le hq0
  have hk0 : k0 ≤ 4 := by have := hq1 (by omega); omega
  clear hc hg hq0 hq1
  go_wp2_with fail
  go_loopw [5, 6] (fun v i wr => ∃ (k : Nat) (D : List (Int × Int)), i = .int .i64 k ∧ D.length + k ≤ 4 ∧ OwnD wr w.heap.size v D ∧ Cur wr g ∧ w.grownBy wr (some g)) (fun _ i _ => (intOf i).toNat)
  case atStart => exact ⟨k0, [], rfl, by simpa using hk0, hI, hc1, hG⟩
  case round =>
    clear hI hc1 hG
    obtain ⟨k, D, rfl, hk, hI, hc, hG⟩ := hrel
    have hi := hi0
    have HDL : D.length ≤ 4 := by omega
    by_cases hlt0 : 0 < k
    · go_wp2_with fail
      refine (c_l6Dep g N h5 _ hc).mono ?_
      rintro e w2 ⟨l, r, rfl, hc2, hg⟩
      replace hI := hI.cur hg hlt
      replace hG := grown_trans hG hg
      clear hc hg
      have d0 := box_at w2 #[.int .i64 l, .int .i64 r] 55 0 _ rfl
      have d1 := box_at w2 #[.int .i64 l, .int .i64 r] 55 1 _ rfl
      have hba := (Below.refl w2.heap.size w2).alloc (Nat.le_refl _) (.cells #[.int .i64 l, .int .i64 r] 55)
      replace hI := hI.keep hba
      replace hG := grown_trans hG (grown_of_below hba _)
      replace hc2 := hc2.keep hba
      clear hba
      go_wp2_with (first | (at_builtin; refine wpList_append_own _ rfl _ _ 29 rfl w.heap.size 55 i0 (.agg #[.int .i64 0, .int .i64 0]) 2 16 Try.underlying29 hi hz0 hz1 hz2 rfl (by decide) _ _ _ rfl (World.ownsRow.alloc hI _) _ 1 1 [.int .i64 l, .int .i64 r] rfl rfl (World.news_of_block (cs := #[.int .i64 l, .int .i64 r]) (t := 55) (fr := (0, 0)) (heap_two _ _ _)) (by intro u hu; simp at hu; rcases hu with rfl | rfl <;> rfl) (by unfold maxLen; omega) (by omega) (by have := hG.size; simp at this ⊢; omega) ?_; intro v' w3 hown hgrow _; have hc3 := Cur.grown (cur_alloc hc2 _) hgrow (fun k e => by have := (World.ownsRow.lt hI k e).1; omega); have hG3 := grown_more (grown_trans hG (grown_of_below ((Below.refl _ _).alloc (Nat.le_refl _) _) _)) hgrow (fun k e => (World.ownsRow.lt hI k e).1); replace hI := OwnD.snoc hown; clear hown hgrow hG hc2) | fail)
      go_roundw
      case rel => exact ⟨k - 1, D ++ [(l, r)], by go_num, by simp; omega, hI, hc3, hG3⟩
      case measure => simp [intOf]; omega
    · have HK : Hid (k = 0) := by show k = 0; omega
      obtain ⟨o, c, rfl⟩ := hI.shape
      go_wp2
      go_ret
      exact ⟨o, c, D, rfl, hI, HDL, hc, hG⟩
end Go.Proofs.Ytjbmpnbfiahdhaa
namespace Go.Proofs.Ytjbmpnbfiahdhaa
open Go.RowKit
set_option linter.unusedVariables false
set_option maxRecDepth 100000

set_option maxHeartbeats 1600000 in
theorem c_l10Draw (g : Nat) (w : World) (hc : Cur w g) :
    Calls Try.prog 112 #[.pointer (some ⟨g, 0, none⟩)] w fun e w' => ∃ n o c D, e = .returned (.tuple #[.int .i64 n, .slice o (D.length : Nat) c]) ∧ OwnD w' w.heap.size (.slice o D.length c) D ∧ D.length ≤ 5 ∧ Cur w' g ∧ w.grownBy w' (some g) := by
  obtain ⟨i0, hi, hz0, hz1, hz2⟩ := info_parts info_dep
  have hlt := hc.lt
  go_enter Try.func112, Try.ntmps112
  go_wp2_with fail
  refine (c_l1Below g 3 (by omega) _ hc).mono ?_
  rintro e w1 ⟨q, rfl, hq0, hq1, _, hc1, hG⟩
  obtain ⟨k, rfl⟩ := Int.eq_ofNat_of_zero_le hq0
  have hk : k ≤ 2 := by have := hq1 (by omega); omega
  clear hc hq0 hq1
  go_wp2_with fail
  refine (show Calls _ _ #[_, .int .i64 ((2 : Int) + (k : Int))] _ _ from (by have := c_l6Deps g (2 + k) (by omega) w1 hc1; rwa [Int.natCast_add] at this)).mono ?_
  rintro e w2 ⟨o, c, D, rfl, hI, hD, hc2, hg⟩
  replace hI := hI.based hG.size
  replace hG := grown_trans hG hg
  clear hc1 hg
  go_wp2_with fail
  refine (c_l1Below g 14 (by omega) _ hc2).mono ?_
  rintro e w3 ⟨q, rfl, _, _, _, hc3, hg⟩
  replace hI := hI.cur hg hlt
  replace hG := grown_trans hG hg
  clear hc2 hg
  by_cases e0 : q = 0
  · go_wp2_with fail
    refine (c_l6Any g _ _ hc3).mono ?_
    rintro e w4 ⟨l, r, rfl, hc4, hg⟩
    replace hI := hI.cur hg hlt
    replace hG := grown_trans hG hg
    clear hc3 hg
    go_wp2_with (first | (at_builtin; refine wpList_append_own _ rfl _ _ 29 rfl w.heap.size 55 i0 (.agg #[.int .i64 0, .int .i64 0]) 2 16 Try.underlying29 hi hz0 hz1 hz2 rfl (by decide) _ _ _ rfl (World.ownsRow.alloc hI _) _ 1 1 [.int .i64 l, .int .i64 r] rfl rfl (World.news_of_block (cs := #[.int .i64 l, .int .i64 r]) (t := 55) (fr := (0, 0)) (heap_alloc_new _ _)) (by intro u hu; simp at hu; rcases hu with rfl | rfl <;> rfl) (by unfold maxLen; omega) (by omega) (by have := hG.size; simp at this ⊢; omega) ?_; intro v' w3 hown hgrow _; have hc3 := Cur.grown (cur_alloc hc4 _) hgrow (fun k e => by have := (World.ownsRow.lt hI k e).1; omega); have hG3 := grown_more (grown_trans hG (grown_of_below ((Below.refl _ _).alloc (Nat.le_refl _) _) _)) hgrow (fun k e => (World.ownsRow.lt hI k e).1); replace hI := OwnD.snoc hown; clear hown hgrow hG hc4; obtain ⟨o', c', rfl⟩ := hI.shape) | fail)
    exact bodyPost_ret (v := .tuple #[.int .i64 ((2 : Int) + k), .slice o' (D ++ [(l, r)]).length c']) (by simp [results, Try.results112, go_sem]) rfl ⟨_, _, _, _, rfl, hI, by simp; omega, hc3, hG3⟩
  · by_cases e1 : q = 1
    · have hL := fun T => lit_ints w3 #[.int .i64 0, .int .i64 1, .int .i64 5, .int .i64 6] [0, 1, 5, 6] (by simp) (fun k hk => by match k, hk with | 0, _ => rfl | 1, _ => rfl | 2, _ => rfl | 3, _ => rfl) T
      have hlt3 := hc3.lt
      go_wp2_with fail
      refine (c_l1PickInt g _ 4 [0, 1, 5, 6] (by simp) (by simp) _ (cur_alloc hc3 _) (hL _) (fun a e => by injection e with e; subst e; simp; omega)).mono ?_
      rintro e w4 ⟨x, rfl, _, hc4, hg⟩
      replace hI := (hI.keep ((Below.refl _ _).alloc (Nat.le_refl _) _)).cur hg hlt
      replace hG := grown_trans hG (grown_alloc hg)
      clear hc3 hg hL
      go_wp2
      exact bodyPost_ret (v := .tuple #[.int .i64 x, .slice o D.length c]) (by simp [results, Try.results112, go_sem]) rfl ⟨_, _, _, D, rfl, hI, by omega, hc4, hG⟩
    · go_wp2
      exact bodyPost_ret (v := .tuple #[.int .i64 ((2 : Int) + k), .slice o D.length c]) (by simp [results, Try.results112, go_sem]) rfl ⟨_, _, _, D, rfl, hI, by omega, hc3, hG⟩
set_option maxHeartbeats 1600000 in
theorem c_l10Dep (oa) (m cap : Nat) (hm : m ≤ 1048576) (w : World) (hB : BytesAt w oa m) :
    Calls Try.prog 103 #[.slice oa m cap] w fun e w' => ∃ n o c D l r, e = .returned (.tuple #[.int .i64 n, .slice o (D.length : Nat) c, .agg #[.int .i64 l, .int .i64 r]]) ∧ OwnD w' w.heap.size (.slice o D.length c) D ∧ D.length ≤ 5 ∧ Below w.heap.size w w' := by
  have kZ := Blk.new w #[.int .i64 0, .int .i64 0] 55
  have hb := (Below.refl w.heap.size w).alloc (Nat.le_refl _) (.cells #[.int .i64 0, .int .i64 0] 55)
  go_enter Try.func103, Try.ntmps103
  go_wp2_with fail
  refine (c_l1New oa m cap hm _ (hB.keep hb)).mono ?_
  rintro e w1 ⟨rfl, hc1, hbn⟩
  replace kZ := kZ.keep hbn
  replace hb := bel_to hb hbn
  clear hbn
  simp only [World.size_alloc] at hc1
  go_wp2_with fail
  refine (c_l10Draw _ _ hc1).mono ?_
  rintro e w2 ⟨n, o, c, D, rfl, hI, hD, hc2, hg⟩
  have hlt1 := hc1.lt
  replace kZ := kZ.cur hg (by omega)
  replace hI := (hI.based (show w.heap.size + 2 ≤ _ by omega))
  replace hb := below_cur hb hg (Nat.le_succ _)
  clear hc1 hg
  go_wp2_with fail
  refine (c_l6Any _ _ _ hc2).mono ?_
  rintro e w3 ⟨l, r, rfl, hc3, hg⟩
  replace kZ := kZ.cur hg (by omega)
  replace hI := hI.cur hg (by omega)
  replace hb := below_cur hb hg (Nat.le_succ _)
  clear hc2 hg
  have z0 := kZ.cell 0 (.int .i64 0) rfl
  have z1 := kZ.cell 1 (.int .i64 0) rfl
  have f0 := kZ.free 0
  have f1 := kZ.free 1
  go_wp2
  exact bodyPost_ret (v := .tuple #[.int .i64 n, .slice o D.length c, .agg #[.int .i64 l, .int .i64 r]]) (by simp [results, Try.results103, go_sem, z0, z1]) rfl ⟨n, o, c, D, l, r, rfl, owns_base (ownsRow_setCell_below (ownsRow_setCell_below hI (a := ⟨w.heap.size, 0, none⟩) (by simp) _) (a := ⟨w.heap.size, 1, none⟩) (by simp) _) (by omega), hD, Below.setCell (p := ⟨w.heap.size, 1, none⟩) (Below.setCell (p := ⟨w.heap.size, 0, none⟩) hb (Nat.le_refl _) _) (Nat.le_refl _) _⟩
end Go.Proofs.Ytjbmpnbfiahdhaa
namespace Go.Proofs.Ytjbmpnbfiahdhaa
open Go.RowKit
set_option linter.unusedVariables false
set_option maxRecDepth 100000

theorem OwnD.setBelow {w : World} {B k j : Nat} {v u : Value} {D : List (Int × Int)} (h : OwnD w B v D) (hk : k < B) : OwnD (w.setCell ⟨k, j, none⟩ u) B v D := ownsRow_setCell_below h (a := ⟨k, j, none⟩) hk u
/-- What the three draws of a dependency answer. -/
def Draws3 (f : FuncId) (oa : Option Addr) (m cap : Nat) (w : World) : Prop :=
  Calls Try.prog f #[.slice oa m cap] w fun e w' => ∃ n o c D l r, e = .returned (.tuple #[.int .i64 n, .slice o (D.length : Nat) c, .agg #[.int .i64 l, .int .i64 r]]) ∧ OwnD w' w.heap.size (.slice o D.length c) D ∧ D.length ≤ 5 ∧ Below w.heap.size w w'
set_option maxHeartbeats 1600000 in
theorem c_DrawImpliesDep (oa) (m cap : Nat) (hm : m ≤ 1048576) (w : World) (hB : BytesAt w oa m) : Draws3 31 oa m cap w := by
  unfold Draws3
  have kZ := Blk.new w #[.int .i64 0, .int .i64 0] 55
  have hb := (Below.refl w.heap.size w).alloc (Nat.le_refl _) (.cells #[.int .i64 0, .int .i64 0] 55)
  go_enter Try.func31, Try.ntmps31
  go_wp2_with fail
  refine (c_l10Dep oa m cap hm _ (hB.keep hb)).mono ?_
  rintro e w1 ⟨n, o, c, D, l, r, rfl, hI, hD, hbn⟩
  simp only [World.size_alloc] at hI
  replace kZ := kZ.keep hbn
  replace hb := bel_to hb hbn
  clear hbn
  have hlt := kZ.lt
  have y0 := kZ.cell 0 (.int .i64 0) rfl
  have y1 := kZ.cell 1 (.int .i64 0) rfl
  have g0 := kZ.free 0
  have g1 := kZ.free 1
  have kD := Blk.new w1 #[.int .i64 l, .int .i64 r] 55
  have d0 := kD.cell 0 (.int .i64 l) rfl
  have d1 := kD.cell 1 (.int .i64 r) rfl
  have d0' := kD.drew.cell 0 (.int .i64 l) rfl
  have d1' := kD.drew.cell 1 (.int .i64 r) rfl
  have z0 := (kZ.alloc (.cells #[.int .i64 l, .int .i64 r] 55)).drew.cell 0 (.int .i64 0) rfl
  have z1 := (kZ.alloc (.cells #[.int .i64 l, .int .i64 r] 55)).drew.cell 1 (.int .i64 0) rfl
  have f0 := (kZ.alloc (.cells #[.int .i64 l, .int .i64 r] 55)).drew.free 0
  have f1 := (kZ.alloc (.cells #[.int .i64 l, .int .i64 r] 55)).drew.free 1
  clear kD
  go_wp2_with fail
  go_region
  all_goals
    go_wp2
    have hb2 := (Below.setCell (p := ⟨w.heap.size, 1, none⟩) (Below.setCell (p := ⟨w.heap.size, 0, none⟩) hb (Nat.le_refl _) (.int .i64 l)) (Nat.le_refl _) (.int .i64 r))
    have k2 : Blk _ w.heap.size #[.int .i64 l, .int .i64 r] 55 := (((kZ.set 0 (.int .i64 l)).set 1 (.int .i64 r)).alloc (.cells #[.int .i64 l, .int .i64 r] 55)).drew
    have r0 := k2.cell 0 (.int .i64 l) rfl
    have r1 := k2.cell 1 (.int .i64 r) rfl
    exact bodyPost_ret (v := .tuple #[.int .i64 n, .slice o D.length c, .agg #[.int .i64 l, .int .i64 r]]) (by simp only [results, Try.results31]; simp [go_sem, r0, r1]) rfl ⟨n, o, c, D, l, r, rfl, (((hI.setBelow (Nat.lt_succ_self _)).setBelow (Nat.lt_succ_self _)).keep ((Below.refl _ _).alloc (Nat.le_refl _) _).drew).based (Nat.le_succ _), hD, (hb2.alloc hb2.size _).drew⟩
set_option maxHeartbeats 1600000 in
theorem c_DrawClosureOf (oa) (m cap : Nat) (hm : m ≤ 1048576) (w : World) (hB : BytesAt w oa m) :
    Calls Try.prog 43 #[.slice oa m cap] w fun e w' => ∃ n o c D x, e = .returned (.tuple #[.int .i64 n, .slice o (D.length : Nat) c, .int .i64 x]) ∧ OwnD w' w.heap.size (.slice o D.length c) D ∧ D.length ≤ 5 ∧ Below w.heap.size w w' := by
  go_enter Try.func43, Try.ntmps43
  go_wp2_with fail
  refine (c_l1New oa m cap hm _ hB).mono ?_
  rintro e w1 ⟨rfl, hc1, hb⟩
  have hlt1 := hc1.lt
  go_wp2_with fail
  refine (c_l10Draw _ _ hc1).mono ?_
  rintro e w2 ⟨n, o, c, D, rfl, hI, hD, hc2, hg⟩
  replace hb := below_cur hb hg (Nat.le_refl _)
  replace hI := hI.based (show w.heap.size + 1 ≤ _ by omega)
  clear hc1 hg
  go_wp2_with fail
  refine (c_l1Once _ 8 (by omega) _ hc2).mono ?_
  rintro e w3 ⟨t, rfl, hc3, hg⟩
  replace hb := below_cur hb hg (Nat.le_refl _)
  replace hI := hI.cur hg (by omega)
  clear hc2 hg
  cases t
  · go_wp2_with fail
    refine (c_l1Below _ 4 (by omega) _ hc3).mono ?_
    rintro e w4 ⟨x, rfl, _, _, _, hc4, hg⟩
    replace hb := below_cur hb hg (Nat.le_refl _)
    replace hI := hI.cur hg (by omega)
    clear hc3 hg
    go_wp2
    exact bodyPost_ret (v := .tuple #[.int .i64 n, .slice o D.length c, .int .i64 x]) (by simp [results, Try.results43, go_sem]) rfl ⟨n, o, c, D, x, rfl, hI.based (Nat.le_succ _), hD, hb⟩
  · go_wp2_with fail
    refine (c_l2Any _ _ hc3).mono ?_
    rintro e w4 ⟨x, rfl, _, _, hc4, hg⟩
    replace hb := below_cur hb hg (Nat.le_refl _)
    replace hI := hI.cur hg (by omega)
    clear hc3 hg
    go_wp2
    exact bodyPost_ret (v := .tuple #[.int .i64 n, .slice o D.length c, .int .i64 x]) (by simp [results, Try.results43, go_sem]) rfl ⟨n, o, c, D, x, rfl, hI.based (Nat.le_succ _), hD, hb⟩
end Go.Proofs.Ytjbmpnbfiahdhaa
namespace Go.Proofs.Ytjbmpnbfiahdhaa
open Go.RowKit
set_option linter.unusedVariables false
set_option maxRecDepth 100000

set_option maxHeartbeats 3200000 in
theorem c_specDeriveDep (n : Int) (oa) (cap : Nat) (D : List (Int × Int)) (l r : Int) (w : World) (hD : DepsAt w oa D) :
    Calls Try.prog 117 #[.int .i64 n, .slice oa D.length cap, .agg #[.int .i64 l, .int .i64 r]] w fun e w' => ∃ v L, e = .returned (.tuple #[v, .bool (impliesDepF n D l r)]) ∧ Derives n D l r L ∧ OwnT w' w.heap.size v L ∧ Below w.heap.size w w' := by
  obtain ⟨i0, hi, hz0, hz1, hz2⟩ := info_parts info_derived
  have hn : D.length ≤ 1073741824 := hD.len
  have hb0 := (Below.refl w.heap.size w).alloc (Nat.le_refl _) (.cells #[.int .i64 l, .int .i64 r] 55)
  have b0 := box_at w #[.int .i64 l, .int .i64 r] 55 0 _ rfl
  have b1 := box_at w #[.int .i64 l, .int .i64 r] 55 1 _ rfl
  have hI0 := OwnT.empty (w.alloc (.cells #[.int .i64 l, .int .i64 r] 55)) (w.heap.size + 1) (by simp)
  have es : (w.alloc (.cells #[.int .i64 l, .int .i64 r] 55)).heap.size = w.heap.size + 1 := by simp
  have hI : OwnT ((w.alloc (.cells #[.int .i64 l, .int .i64 r] 55)).alloc (.cells #[] 119)) (w.heap.size + 1) (.slice (some ⟨w.heap.size + 1, 0, none⟩) 0 0) [] := by rw [← es]; rw [← es] at hI0; exact hI0
  have hb := hb0.alloc hb0.size (.cells #[] 119)
  replace b0 := cell_alloc b0 (.cells #[] 119)
  replace b1 := cell_alloc b1 (.cells #[] 119)
  clear hb0 hI0 es
  cases himp : impliesDepF n D l r
  · have HV : Hid (Derives n D l r []) := ⟨fun h => (by rw [himp] at h; cases h), fun _ => rfl, Nat.zero_le _⟩
    go_enter Try.func117, Try.ntmps117
    go_wp2_with (first | (go_at_call 35; refine Calls.mono (Ans.eqb (c_specImpliesDep _ _ _ _ _ _ _ (hD.keep hb)) himp) ?_; rintro e w1 ⟨rfl, hbn⟩; replace hI := hI.keep hbn; replace hb := bel_to (w := w) (by first | exact hb | exact hb.alloc hb.size _ | exact (hb.alloc hb.size _).alloc (Nat.le_trans hb.size (by simp)) _ | exact hb.setCell (by simp [hb.size]) _) hbn; clear hbn))
    go_ret2
    exact ⟨_, [], rfl, HV.out, hI.based (Nat.le_succ _), hb⟩
  · obtain ⟨hv, hl, hr⟩ := impliesDepF_val himp
    have hr0 : 0 ≤ r := hr.1
    have hr1 : r < 5 := hr.2
    have HV : Hid (∀ L, L.length ≤ 31 → Drv D r l 0 L → Derives n D l r L) := fun L hL h => ⟨fun _ => h, fun h' => (by rw [himp] at h'; cases h'), hL⟩
    have HC : Hid (∀ x, St x → ins l x = true → (∀ j, j < D.length → ins (nl D j) x = true → hasc x (nr D j) = true) → hasc x r = true) := by
      intro x hx hlx hall
      have h1 := cloF_min hv hl hx hlx (closed_of hall)
      have h2 : hasc (cloF D l) r = true := by
        simp only [impliesDepF, Bool.and_eq_true] at himp; exact himp.2.2
      exact (ins_iff (cloF_st hv hl) hx).1 h1 r hr h2
    go_enter Try.func117, Try.ntmps117
    go_wp2_with (first | (go_at_call 35; refine Calls.mono (Ans.eqb (c_specImpliesDep _ _ _ _ _ _ _ (hD.keep hb)) himp) ?_; rintro e w1 ⟨rfl, hbn⟩; replace b0 := cell_keep b0 hbn; replace b1 := cell_keep b1 hbn; replace hI := hI.keep hbn; replace hb := bel_to (w := w) (by first | exact hb | exact hb.alloc hb.size _ | exact (hb.alloc hb.size _).alloc (Nat.le_trans hb.size (by simp)) _ | exact hb.setCell (by simp [hb.size]) _) hbn; clear hbn))
    clear himp
    go_loopw [8, 9] (fun v t wr => ∃ (A : List T3) (x : Int), t = .int .i64 x ∧ St x ∧ ins l x = true ∧ A.length ≤ x.toNat ∧ (∀ L, Drv D r x 0 L → Drv D r l 0 (A ++ L)) ∧
      wr.cell? ⟨w.heap.size, 0, none⟩ = some (.int .i64 l) ∧ wr.cell? ⟨w.heap.size, 1, none⟩ = some (.int .i64 r) ∧ OwnT wr (w.heap.size + 1) v A ∧ Below w.heap.size w wr) (fun _ t _ => 31 - (intOf t).toNat)
    case atStart => exact ⟨[], l, rfl, hl, ins_refl hl, Nat.zero_le _, fun L h => h, b0, b1, hI, hb⟩
    case round =>
      clear hI hb b0 b1
      obtain ⟨A, x, rfl, hx, hlx, hA, hdr, b0, b1, hI, hb⟩ := hrel
      have HD0 : Hid (∀ L, Drv D r x 0 L → Drv D r l 0 (A ++ L)) := hdr
      have HLX : Hid (ins l x = true) := hlx
      have hx31 : x.toNat ≤ 31 := by have := hx.1; have := hx.2; omega
      clear hdr hlx
      cases hh : hasc x r
      · have hh1 : (bits BinOp.and IntKind.i64 (x / 2 ^ r.toNat) 1 == 0) = true := by have := hasn_eq hx hr; unfold hasn at this; rw [this, hh]; rfl
        obtain ⟨o1, c1, rfl⟩ := hI.shape
        go_wp2
        go_loopw [8, 9, 10] (fun v t i wr => v = .slice o1 A.length c1 ∧ t = .int .i64 x ∧ ∃ k : Nat, i = .int .i64 k ∧ k ≤ D.length ∧ (∀ j, j < k → ins (nl D j) x = true → hasc x (nr D j) = true) ∧ (∀ L, Drv D r x k L → Drv D r l 0 (A ++ L)) ∧
          wr.cell? ⟨w.heap.size, 0, none⟩ = some (.int .i64 l) ∧ wr.cell? ⟨w.heap.size, 1, none⟩ = some (.int .i64 r) ∧ OwnT wr (w.heap.size + 1) (.slice o1 A.length c1) A ∧ Below w.heap.size w wr) (fun _ _ i _ => D.length - (intOf i).toNat)
        case atStart => exact ⟨rfl, rfl, 0, rfl, Nat.zero_le _, fun j hj => absurd hj (by omega), HD0.out, b0, b1, hI, hb⟩
        case round =>
          clear hI hb b0 b1
          obtain ⟨rfl, rfl, k, rfl, hk, hall, hdr, b0, b1, hI, hb⟩ := hrel
          have HD : Hid (∀ L, Drv D r x k L → Drv D r l 0 (A ++ L)) := hdr
          have HA : Hid (∀ j, j < k → ins (nl D j) x = true → hasc x (nr D j) = true) := hall
          clear hdr hall
          by_cases hlt : k < D.length
          · obtain ⟨b, off, rfl, hbs, hc⟩ := hD.at_ (by omega)
            have hc1 := cell_keep (hc k hlt).1 hb
            have hc2 := cell_keep (hc k hlt).2 hb
            obtain ⟨hvl, hvr⟩ := hv.at_ hlt
            have q0 : 0 ≤ nr D k := hvr.1
            have q1 : nr D k < 5 := hvr.2
            have hsn : (bits BinOp.and IntKind.i64 (x / 2 ^ (nr D k).toNat) 1 == 0) = !hasc x (nr D k) := hasn_eq hx hvr
            have hsi : (bits BinOp.and IntKind.i64 (nl D k) x == nl D k) = ins (nl D k) x := insA_eq hvl hx
            clear hc
            cases h1 : ins (nl D k) x
            · rw [h1] at hsi
              have HN : Hid (∀ L, Drv D r x (k + 1) L → Drv D r l 0 (A ++ L)) := fun L hL => HD.out L (.skip hh hlt (by rw [h1]; rfl) hL)
              clear hsn
              go_wp2_with fail
              (refine wp_region_after (by kernel_rfl) (by kernel_rfl) ?_; have q_b0 := fun (x : After _) => cell_keep b0 x.bel; have q_b1 := fun (x : After _) => cell_keep b1 x.bel; have q_hc1 := fun (x : After _) => cell_keep hc1 x.bel; have q_hc2 := fun (x : After _) => cell_keep hc2 x.bel; (repeat (go_big_quiet_step (fail))); clear q_b0; clear q_b1; clear q_hc1; clear q_hc2; refine wpQuiet_nil ?_; rintro _ ⟨⟨w1, hbn⟩, rfl⟩; (try simp only [After.w]); replace b0 := cell_keep b0 hbn; replace b1 := cell_keep b1 hbn; replace hc1 := cell_keep hc1 hbn; replace hc2 := cell_keep hc2 hbn; replace hI := hI.keep hbn; replace hb := bel_to (w := w) (by first | exact hb | exact hb.alloc hb.size _ | exact (hb.alloc hb.size _).alloc (Nat.le_trans hb.size (by simp)) _ | exact hb.setCell (by simp [hb.size]) _) hbn; clear hbn)
              go_wp2
              go_roundw
              case rel => exact ⟨rfl, rfl, k + 1, by go_num, by omega, lt_step (p := fun j => ins (nl D j) x = true → hasc x (nr D j) = true) HA.out (fun h => by rw [h1] at h; cases h), HN.out, b0, b1, hI, hb⟩
              case measure => simp [intOf]; omega
            · rw [h1] at hsi
              cases h2 : hasc x (nr D k)
              · have hlt2 := uni_lt hx hvr h2
                have HST : Hid (St (uni x (one (nr D k)))) := uni_st hx (one_st hvr)
                have HLT : Hid (x < uni x (one (nr D k))) := hlt2
                have HL2 : Hid (ins l (uni x (one (nr D k))) = true) := ins_trans hl hx HST.out HLX.out (ins_uni_left hx (one_st hvr))
                have HN : Hid (∀ L, Drv D r (uni x (one (nr D k))) 0 L → Drv D r l 0 ((A ++ [((k : Int), x, uni x (one (nr D k)))]) ++ L)) := fun L hL => by
                  rw [List.append_assoc]; exact HD.out _ (.take hh hlt h1 h2 hL)
                rw [h2] at hsn
                replace hsn : (bits BinOp.and IntKind.i64 (x / 2 ^ (nr D k).toNat) 1 == 0) = true := hsn
                clear hlt2
                go_wp2_with fail
                (refine wp_region_after (by kernel_rfl) (by kernel_rfl) ?_; have q_b0 := fun (x : After _) => cell_keep b0 x.bel; have q_b1 := fun (x : After _) => cell_keep b1 x.bel; have q_hc1 := fun (x : After _) => cell_keep hc1 x.bel; have q_hc2 := fun (x : After _) => cell_keep hc2 x.bel; (repeat (go_big_quiet_step (fail))); clear q_b0; clear q_b1; clear q_hc1; clear q_hc2; refine wpQuiet_nil ?_; rintro _ ⟨⟨w1, hbn⟩, rfl⟩; (try simp only [After.w]); replace b0 := cell_keep b0 hbn; replace b1 := cell_keep b1 hbn; replace hc1 := cell_keep hc1 hbn; replace hc2 := cell_keep hc2 hbn; replace hI := hI.keep hbn; replace hb := bel_to (w := w) (by first | exact hb | exact hb.alloc hb.size _ | exact (hb.alloc hb.size _).alloc (Nat.le_trans hb.size (by simp)) _ | exact hb.setCell (by simp [hb.size]) _) hbn; clear hbn)
                go_wp2_with (first | (at_builtin; refine wpList_append_own _ rfl _ _ 59 rfl (w.heap.size + 1) 119 i0 (.agg #[.int .i64 0, .int .i64 0, .int .i64 0]) 3 24 Try.underlying59 hi hz0 hz1 hz2 rfl (by decide) _ _ _ rfl (World.ownsRow.alloc hI _) _ 1 1 [.int .i64 (k : Int), .int .i64 x, .int .i64 (uni x (one (nr D k)))] rfl rfl (World.news_of_block (cs := #[.int .i64 (k : Int), .int .i64 x, .int .i64 (uni x (one (nr D k)))]) (t := 119) (fr := (0, 0)) (heap_alloc_new _ _)) (by intro u hu; simp at hu; rcases hu with rfl | rfl | rfl <;> rfl) (by unfold maxLen; omega) (by omega) (Nat.le_trans (World.block_lt_of_cell? _ _ b0) (by simp)) ?_; intro v' w1 hown hgrow _; replace b0 := cell_grow (cell_alloc b0 _) (World.ownsRow.alloc hI _) (Nat.lt_succ_self _) hgrow; replace b1 := cell_grow (cell_alloc b1 _) (World.ownsRow.alloc hI _) (Nat.lt_succ_self _) hgrow; replace hb := (hb.alloc hb.size _).grown hgrow (by have := hb.size; simp; omega) (fun g hg => Nat.le_of_succ_le (World.ownsRow.lt hI g hg).1); replace hI := OwnT.snoc hown; clear hown hgrow))
                go_roundw
                case rel => exact ⟨A ++ [((k : Int), x, uni x (one (nr D k)))], uni x (one (nr D k)), rfl, HST.out, HL2.out, by have h3 := HLT.out; have h4 := hx.1; rw [List.length_append]; simp only [List.length_cons, List.length_nil]; omega, HN.out, b0, b1, hI, hb⟩
                case measure =>
                  have h1 := HLT.out
                  have h2 := HST.out.1
                  have h3 := HST.out.2
                  have h4 := hx.1
                  show 31 - (uni x (one (nr D k))).toNat < 31 - x.toNat
                  omega
              · rw [h2] at hsn
                replace hsn : (bits BinOp.and IntKind.i64 (x / 2 ^ (nr D k).toNat) 1 == 0) = false := hsn
                have HN : Hid (∀ L, Drv D r x (k + 1) L → Drv D r l 0 (A ++ L)) := fun L hL => HD.out L (.skip hh hlt (by rw [h1, h2]; rfl) hL)
                go_wp2_with fail
                (refine wp_region_after (by kernel_rfl) (by kernel_rfl) ?_; have q_b0 := fun (x : After _) => cell_keep b0 x.bel; have q_b1 := fun (x : After _) => cell_keep b1 x.bel; have q_hc1 := fun (x : After _) => cell_keep hc1 x.bel; have q_hc2 := fun (x : After _) => cell_keep hc2 x.bel; (repeat (go_big_quiet_step (fail))); clear q_b0; clear q_b1; clear q_hc1; clear q_hc2; refine wpQuiet_nil ?_; rintro _ ⟨⟨w1, hbn⟩, rfl⟩; (try simp only [After.w]); replace b0 := cell_keep b0 hbn; replace b1 := cell_keep b1 hbn; replace hc1 := cell_keep hc1 hbn; replace hc2 := cell_keep hc2 hbn; replace hI := hI.keep hbn; replace hb := bel_to (w := w) (by first | exact hb | exact hb.alloc hb.size _ | exact (hb.alloc hb.size _).alloc (Nat.le_trans hb.size (by simp)) _ | exact hb.setCell (by simp [hb.size]) _) hbn; clear hbn)
                go_wp2
                go_roundw
                case rel => exact ⟨rfl, rfl, k + 1, by go_num, by omega, lt_step (p := fun j => ins (nl D j) x = true → hasc x (nr D j) = true) HA.out (fun _ => h2), HN.out, b0, b1, hI, hb⟩
                case measure => simp [intOf]; omega
          · exfalso
            have := HC.out x hx HLX.out fun j hj => HA.out j (by omega)
            rw [hh] at this; cases this
      · have hh1 : (bits BinOp.and IntKind.i64 (x / 2 ^ r.toNat) 1 == 0) = false := by have := hasn_eq hx hr; unfold hasn at this; rw [this, hh]; rfl
        have HE : Hid (Drv D r l 0 A) := by have := HD0.out [] (.done hh); rw [List.append_nil] at this; exact this
        go_wp2
        go_ret2
        exact ⟨_, A, rfl, HV.out A (by omega) HE.out, hI.based (Nat.le_succ _), hb⟩
end Go.Proofs.Ytjbmpnbfiahdhaa
namespace Go.Proofs.Ytjbmpnbfiahdhaa
open Go.RowKit
set_option linter.unusedVariables false
set_option maxRecDepth 100000

theorem OwnT.first {w : World} {B g n cap : Nat} {a b c x : Int} {L : List T3} (h : OwnT w B (.slice (some ⟨g, 0, none⟩) n cap) ((a, b, c) :: L)) (hn : n = L.length + 1) :
    w.cell? ⟨g, 0, none⟩ = some (.int .i64 a) ∧ w.frozen? ⟨g, 0, none⟩ = false ∧ OwnT (w.setCell ⟨g, 0, none⟩ (.int .i64 x)) B (.slice (some ⟨g, 0, none⟩) n cap) ((x, b, c) :: L) := by
  subst hn
  refine ⟨?_, h.frozenAt 0, (h.stored 0 (.int .i64 x)).1⟩
  rw [h.cellAt 0 (by simp)]; rfl
set_option maxHeartbeats 3200000 in
theorem c_DrawCheckDerivation (oa) (m cap : Nat) (hm : m ≤ 1048576) (w : World) (hB : BytesAt w oa m) :
    Calls Try.prog 45 #[.slice oa m cap] w fun e w' => ∃ n o c D l r oT cT S, e = .returned (.tuple #[.int .i64 n, .slice o (D.length : Nat) c, .agg #[.int .i64 l, .int .i64 r], .slice oT (S.length : Nat) cT]) ∧ OwnD w' w.heap.size (.slice o D.length c) D ∧ OwnT w' w.heap.size (.slice oT S.length cT) S ∧ D.length ≤ 5 ∧ S.length ≤ 31 ∧ Below w.heap.size w w' := by
  have kZ := Blk.new w #[.int .i64 0, .int .i64 0] 55
  have hb := (Below.refl w.heap.size w).alloc (Nat.le_refl _) (.cells #[.int .i64 0, .int .i64 0] 55)
  go_enter Try.func45, Try.ntmps45
  go_wp2_with fail
  refine (c_l10Dep oa m cap hm _ (hB.keep hb)).mono ?_
  rintro e w1 ⟨n, o, c, D, l, r, rfl, hI, hD, hbn⟩
  simp only [World.size_alloc] at hI
  replace kZ := kZ.keep hbn
  replace hb := bel_to hb hbn
  clear hbn
  have hlt := kZ.lt
  have kD := Blk.new w1 #[.int .i64 l, .int .i64 r] 55
  replace kZ := kZ.alloc (.cells #[.int .i64 l, .int .i64 r] 55)
  replace hI := hI.keep ((Below.refl w1.heap.size w1).alloc (Nat.le_refl _) (.cells #[.int .i64 l, .int .i64 r] 55))
  replace hb := hb.alloc hb.size (.cells #[.int .i64 l, .int .i64 r] 55)
  have d0 := kD.cell 0 (.int .i64 l) rfl
  have d1 := kD.cell 1 (.int .i64 r) rfl
  go_wp2_with fail
  refine (c_specDeriveDep n o c D l r _ (hI.deps rfl (by unfold Room; omega))).mono ?_
  rintro e w2 ⟨v, S, rfl, hS, hT, hbn⟩
  have hap := apart_old hI hT
  obtain ⟨oT, cT, rfl⟩ := hT.shape
  have HTB : Hid (∀ g, (Value.slice oT S.length cT).ownBlock = some g → w1.heap.size + 1 ≤ g) := fun g e => by have := (World.ownsRow.lt hT g e).1; simpa using this
  replace hT := hT.based (show w.heap.size + 1 ≤ _ by simp; omega)
  replace kZ := kZ.keep hbn
  replace kD := kD.keep hbn
  replace hI := hI.keep hbn
  replace hb := bel_to hb hbn
  have hkd : w1.heap.size ≠ w.heap.size := by omega
  have HS : Hid (S.length ≤ 31) := hS.2.2
  obtain ⟨q, HQ⟩ : ∃ q, Hid (q = S.length) := ⟨_, rfl⟩
  rw [← HQ.out] at hT hap HTB
  rw [show Value.slice oT S.length cT = Value.slice oT q cT by rw [HQ.out]]
  clear hbn d0 d1
  generalize w1.heap.size = kd at *
  by_cases h3 : 3 < m
  · obtain ⟨b, off, rfl, hbs, hcell⟩ := (hB.keep hb).at_ (by omega)
    obtain ⟨y, hy, hy0, hy1⟩ := hcell 3 h3
    obtain ⟨x, hx, hx0, hx1⟩ := hcell 2 (by omega)
    clear hcell
    by_cases h4 : y % 4 = 0
    · rcases S with _ | ⟨⟨ta, tb, tc⟩, L⟩
      · have hqn : ¬ (0 : Int) < (q : Int) := by have := HQ.out; simp at this; omega
        go_wp2_with fail
        have y0 := kZ.cell 0 (.int .i64 0) rfl
        have y1 := kZ.cell 1 (.int .i64 0) rfl
        have g0 := kZ.free 0
        have g1 := kZ.free 1
        have d0 := kD.cell 0 (.int .i64 l) rfl
        have d1 := kD.cell 1 (.int .i64 r) rfl
        have z0 := kZ.drew.cell 0 (.int .i64 0) rfl
        have z1 := kZ.drew.cell 1 (.int .i64 0) rfl
        have f0 := kZ.drew.free 0
        have f1 := kZ.drew.free 1
        have e0 := kD.drew.cell 0 (.int .i64 l) rfl
        have e1 := kD.drew.cell 1 (.int .i64 r) rfl
        go_region
        all_goals
          go_wp2
          have hb2 := (Below.setCell (p := ⟨w.heap.size, 1, none⟩) (Below.setCell (p := ⟨w.heap.size, 0, none⟩) hb (Nat.le_refl _) (.int .i64 l)) (Nat.le_refl _) (.int .i64 r))
          have k2 : Blk _ w.heap.size #[.int .i64 l, .int .i64 r] 55 := ((kZ.set 0 (.int .i64 l)).set 1 (.int .i64 r)).drew
          have r0 := k2.cell 0 (.int .i64 l) rfl
          have r1 := k2.cell 1 (.int .i64 r) rfl
          have hI2 := owns_base (owns_keep (ownsRow_setCell_below (ownsRow_setCell_below hI (a := ⟨w.heap.size, 0, none⟩) (Nat.lt_succ_self _) (.int .i64 l)) (a := ⟨w.heap.size, 1, none⟩) (Nat.lt_succ_self _) (.int .i64 r)) (Below.refl _ _).drew) (Nat.le_succ w.heap.size)
          have hT2 := owns_base (owns_keep (ownsRow_setCell_below (ownsRow_setCell_below hT (a := ⟨w.heap.size, 0, none⟩) (Nat.lt_succ_self _) (.int .i64 l)) (a := ⟨w.heap.size, 1, none⟩) (Nat.lt_succ_self _) (.int .i64 r)) (Below.refl _ _).drew) (Nat.le_succ w.heap.size)
          exact bodyPost_ret (v := .tuple #[.int .i64 n, .slice o D.length c, .agg #[.int .i64 l, .int .i64 r], .slice oT q cT]) (by simp only [results, Try.results45]; simp [go_sem, r0, r1]) rfl ⟨n, o, c, D, l, r, oT, cT, [], by rw [← HQ.out], hI2, by rw [← HQ.out]; exact hT2, hD, HS.out, hb2.drew⟩
      · have hq : q = L.length + 1 := HQ.out
        obtain ⟨oT', cT', e, hTc⟩ := owns_cells hT
        injection e with e1 e2 e3
        subst e1 e3
        obtain ⟨gT, rfl, hgB, hgl, _⟩ := hTc (by simp)
        obtain ⟨t0, tf, hT3⟩ := OwnT.first (x := x % 6 - 1) hT hq
        have hgk : kd + 1 ≤ gT := HTB.out gT rfl
        have hG := grown_set w2 gT 0 (.int .i64 (x % 6 - 1))
        have hI3 := World.ownsRow.kept hI hG (by rcases hap with h | h; exact .inl h; exact .inr h)
        have kZ3 := kZ.far ⟨gT, 0, none⟩ (.int .i64 (x % 6 - 1)) (by simp; omega)
        have kD3 := kD.far ⟨gT, 0, none⟩ (.int .i64 (x % 6 - 1)) (by simp; omega)
        have hb3 := Below.setCell (p := ⟨gT, 0, none⟩) hb (show w.heap.size ≤ gT by omega) (.int .i64 (x % 6 - 1))
        have hx6 : 0 ≤ x % 6 ∧ x % 6 < 6 := ⟨by omega, by omega⟩
        have HS3 : Hid (((x % 6 - 1, tb, tc) :: L).length ≤ 31) := by have := HS.out; show _ ≤ 31; simpa using this
        have HQ3 : Hid (q = ((x % 6 - 1, tb, tc) :: L).length) := hq
        clear hTc hap HTB HS HQ hS hG
        have hqp : (0 : Int) < q := by omega
        clear hq e2
        go_wp2_with fail
        clear hT hI kZ kD hb t0 tf
        generalize w2.setCell ⟨gT, 0, none⟩ (.int .i64 (x % 6 - 1)) = w3 at *
        have hT := hT3
        have hI := hI3
        have kZ := kZ3
        have kD := kD3
        have hb := hb3
        have HS := HS3
        have HQ := HQ3
        clear hT3 hI3 kZ3 kD3 hb3 HS3 HQ3
        have y0 := kZ.cell 0 (.int .i64 0) rfl
        have y1 := kZ.cell 1 (.int .i64 0) rfl
        have g0 := kZ.free 0
        have g1 := kZ.free 1
        have d0 := kD.cell 0 (.int .i64 l) rfl
        have d1 := kD.cell 1 (.int .i64 r) rfl
        have z0 := kZ.drew.cell 0 (.int .i64 0) rfl
        have z1 := kZ.drew.cell 1 (.int .i64 0) rfl
        have f0 := kZ.drew.free 0
        have f1 := kZ.drew.free 1
        have e0 := kD.drew.cell 0 (.int .i64 l) rfl
        have e1 := kD.drew.cell 1 (.int .i64 r) rfl
        go_region
        all_goals
          go_wp2
          have hb2 := (Below.setCell (p := ⟨w.heap.size, 1, none⟩) (Below.setCell (p := ⟨w.heap.size, 0, none⟩) hb (Nat.le_refl _) (.int .i64 l)) (Nat.le_refl _) (.int .i64 r))
          have k2 : Blk _ w.heap.size #[.int .i64 l, .int .i64 r] 55 := ((kZ.set 0 (.int .i64 l)).set 1 (.int .i64 r)).drew
          have r0 := k2.cell 0 (.int .i64 l) rfl
          have r1 := k2.cell 1 (.int .i64 r) rfl
          have hI2 := owns_base (owns_keep (ownsRow_setCell_below (ownsRow_setCell_below hI (a := ⟨w.heap.size, 0, none⟩) (Nat.lt_succ_self _) (.int .i64 l)) (a := ⟨w.heap.size, 1, none⟩) (Nat.lt_succ_self _) (.int .i64 r)) (Below.refl _ _).drew) (Nat.le_succ w.heap.size)
          have hT2 := owns_base (owns_keep (ownsRow_setCell_below (ownsRow_setCell_below hT (a := ⟨w.heap.size, 0, none⟩) (Nat.lt_succ_self _) (.int .i64 l)) (a := ⟨w.heap.size, 1, none⟩) (Nat.lt_succ_self _) (.int .i64 r)) (Below.refl _ _).drew) (Nat.le_succ w.heap.size)
          exact bodyPost_ret (v := .tuple #[.int .i64 n, .slice o D.length c, .agg #[.int .i64 l, .int .i64 r], .slice (some ⟨gT, 0, none⟩) q cT]) (by simp only [results, Try.results45]; simp [go_sem, r0, r1]) rfl ⟨n, o, c, D, l, r, some ⟨gT, 0, none⟩, cT, (x % 6 - 1, tb, tc) :: L, by rw [← HQ.out], hI2, by rw [← HQ.out]; exact hT2, hD, HS.out, hb2.drew⟩
    · go_wp2_with fail
      have y0 := kZ.cell 0 (.int .i64 0) rfl
      have y1 := kZ.cell 1 (.int .i64 0) rfl
      have g0 := kZ.free 0
      have g1 := kZ.free 1
      have d0 := kD.cell 0 (.int .i64 l) rfl
      have d1 := kD.cell 1 (.int .i64 r) rfl
      have z0 := kZ.drew.cell 0 (.int .i64 0) rfl
      have z1 := kZ.drew.cell 1 (.int .i64 0) rfl
      have f0 := kZ.drew.free 0
      have f1 := kZ.drew.free 1
      have e0 := kD.drew.cell 0 (.int .i64 l) rfl
      have e1 := kD.drew.cell 1 (.int .i64 r) rfl
      go_region
      all_goals
        go_wp2
        have hb2 := (Below.setCell (p := ⟨w.heap.size, 1, none⟩) (Below.setCell (p := ⟨w.heap.size, 0, none⟩) hb (Nat.le_refl _) (.int .i64 l)) (Nat.le_refl _) (.int .i64 r))
        have k2 : Blk _ w.heap.size #[.int .i64 l, .int .i64 r] 55 := ((kZ.set 0 (.int .i64 l)).set 1 (.int .i64 r)).drew
        have r0 := k2.cell 0 (.int .i64 l) rfl
        have r1 := k2.cell 1 (.int .i64 r) rfl
        have hI2 := owns_base (owns_keep (ownsRow_setCell_below (ownsRow_setCell_below hI (a := ⟨w.heap.size, 0, none⟩) (Nat.lt_succ_self _) (.int .i64 l)) (a := ⟨w.heap.size, 1, none⟩) (Nat.lt_succ_self _) (.int .i64 r)) (Below.refl _ _).drew) (Nat.le_succ w.heap.size)
        have hT2 := owns_base (owns_keep (ownsRow_setCell_below (ownsRow_setCell_below hT (a := ⟨w.heap.size, 0, none⟩) (Nat.lt_succ_self _) (.int .i64 l)) (a := ⟨w.heap.size, 1, none⟩) (Nat.lt_succ_self _) (.int .i64 r)) (Below.refl _ _).drew) (Nat.le_succ w.heap.size)
        exact bodyPost_ret (v := .tuple #[.int .i64 n, .slice o D.length c, .agg #[.int .i64 l, .int .i64 r], .slice oT q cT]) (by simp only [results, Try.results45]; simp [go_sem, r0, r1]) rfl ⟨n, o, c, D, l, r, oT, cT, S, by rw [← HQ.out], hI2, by rw [← HQ.out]; exact hT2, hD, HS.out, hb2.drew⟩
  · go_wp2_with fail
    have y0 := kZ.cell 0 (.int .i64 0) rfl
    have y1 := kZ.cell 1 (.int .i64 0) rfl
    have g0 := kZ.free 0
    have g1 := kZ.free 1
    have d0 := kD.cell 0 (.int .i64 l) rfl
    have d1 := kD.cell 1 (.int .i64 r) rfl
    have z0 := kZ.drew.cell 0 (.int .i64 0) rfl
    have z1 := kZ.drew.cell 1 (.int .i64 0) rfl
    have f0 := kZ.drew.free 0
    have f1 := kZ.drew.free 1
    have e0 := kD.drew.cell 0 (.int .i64 l) rfl
    have e1 := kD.drew.cell 1 (.int .i64 r) rfl
    go_region
    all_goals
      go_wp2
      have hb2 := (Below.setCell (p := ⟨w.heap.size, 1, none⟩) (Below.setCell (p := ⟨w.heap.size, 0, none⟩) hb (Nat.le_refl _) (.int .i64 l)) (Nat.le_refl _) (.int .i64 r))
      have k2 : Blk _ w.heap.size #[.int .i64 l, .int .i64 r] 55 := ((kZ.set 0 (.int .i64 l)).set 1 (.int .i64 r)).drew
      have r0 := k2.cell 0 (.int .i64 l) rfl
      have r1 := k2.cell 1 (.int .i64 r) rfl
      have hI2 := owns_base (owns_keep (ownsRow_setCell_below (ownsRow_setCell_below hI (a := ⟨w.heap.size, 0, none⟩) (Nat.lt_succ_self _) (.int .i64 l)) (a := ⟨w.heap.size, 1, none⟩) (Nat.lt_succ_self _) (.int .i64 r)) (Below.refl _ _).drew) (Nat.le_succ w.heap.size)
      have hT2 := owns_base (owns_keep (ownsRow_setCell_below (ownsRow_setCell_below hT (a := ⟨w.heap.size, 0, none⟩) (Nat.lt_succ_self _) (.int .i64 l)) (a := ⟨w.heap.size, 1, none⟩) (Nat.lt_succ_self _) (.int .i64 r)) (Below.refl _ _).drew) (Nat.le_succ w.heap.size)
      exact bodyPost_ret (v := .tuple #[.int .i64 n, .slice o D.length c, .agg #[.int .i64 l, .int .i64 r], .slice oT q cT]) (by simp only [results, Try.results45]; simp [go_sem, r0, r1]) rfl ⟨n, o, c, D, l, r, oT, cT, S, by rw [← HQ.out], hI2, by rw [← HQ.out]; exact hT2, hD, HS.out, hb2.drew⟩
end Go.Proofs.Ytjbmpnbfiahdhaa
namespace Go.Proofs.Ytjbmpnbfiahdhaa
open Go.RowKit
set_option linter.unusedVariables false
set_option maxRecDepth 100000

theorem c_big (oa) (m cap : Nat) (w : World) : Ans Try.prog 30 #[.slice oa m cap] w (.bool (decide ((1048576 : Int) < m))) := by
  unfold Ans
  go_enter Try.func30, Try.ntmps30
  go_wp2
  go_ret
  exact ⟨ret_bool (by simp), Below.refl _ _⟩
theorem c_lawSameInts (oa ob) (ca cb : Nat) (L : List Int) (w : World) (hA : IntsAt w oa L) (hB : IntsAt w ob L) :
    Ans Try.prog 46 #[.slice oa L.length ca, .slice ob L.length cb] w (.bool true) := by
  unfold Ans
  have hn : L.length ≤ 1073741824 := hA.len
  have hne : ((L.length : Int) != L.length) = false := by simp
  go_enter Try.func46, Try.ntmps46
  go_wp2
  go_loopw [5] (fun i wr => ∃ k : Nat, i = .int .i64 k ∧ k ≤ L.length ∧ Below w.heap.size w wr) (fun i _ => L.length - (intOf i).toNat)
  case atStart => exact ⟨0, rfl, Nat.zero_le _, Below.refl _ _⟩
  case round =>
    obtain ⟨k, rfl, hk, hb⟩ := hrel
    by_cases hlt : k < L.length
    · obtain ⟨b, off, rfl, hbs, hc⟩ := hA.at_ (by omega)
      obtain ⟨b', off', rfl, hbs', hc'⟩ := hB.at_ (by omega)
      have h1 := cell_keep (hc k hlt) hb
      have h2 := cell_keep (hc' k hlt) hb
      have hx : (nth L k != nth L k) = false := by simp
      clear hc hc'
      go_wp2_with fail
      (refine wp_region_after (by kernel_rfl) (by kernel_rfl) ?_; have q_h1 := fun (x : After _) => cell_keep h1 x.bel; have q_h2 := fun (x : After _) => cell_keep h2 x.bel; (repeat (go_big_quiet_step (fail))); clear q_h1; clear q_h2; refine wpQuiet_nil ?_; rintro _ ⟨⟨w1, hbn⟩, rfl⟩; (try simp only [After.w]); replace h1 := cell_keep h1 hbn; replace h2 := cell_keep h2 hbn; replace hb := bel_to (w := w) (by first | exact hb | exact hb.alloc hb.size _ | exact (hb.alloc hb.size _).alloc (Nat.le_trans hb.size (by simp)) _ | exact hb.setCell (by simp [hb.size]) _) hbn; clear hbn)
      go_wp2
      go_roundw
      case rel => exact ⟨k + 1, by go_num, by omega, hb⟩
      case measure => simp [intOf]; omega
    · have hkk : k = L.length := by omega
      have HK : Hid (k = L.length) := hkk
      clear hkk
      go_wp2
      go_ret
      exact ⟨rfl, hb⟩
theorem c_lawHas (oa) (ca : Nat) (L : List Int) (x : Int) (w : World) (hA : IntsAt w oa L) (hx : x ∈ L) :
    Ans Try.prog 42 #[.slice oa L.length ca, .int .i64 x] w (.bool true) := by
  unfold Ans
  have hn : L.length ≤ 1073741824 := hA.len
  obtain ⟨j0, hj0⟩ := List.mem_iff_getElem?.1 hx
  have hjl : j0 < L.length := (List.getElem?_eq_some_iff.1 hj0).1
  have HJ : Hid (nth L j0 = x) := by rw [nth_eq hjl] at hj0; exact Option.some.inj hj0
  clear hj0 hx
  go_enter Try.func42, Try.ntmps42
  go_wp2
  go_loopw [5] (fun i wr => ∃ k : Nat, i = .int .i64 k ∧ k ≤ j0 ∧ Below w.heap.size w wr) (fun i _ => L.length - (intOf i).toNat)
  case atStart => exact ⟨0, rfl, Nat.zero_le _, Below.refl _ _⟩
  case round =>
    obtain ⟨k, rfl, hk, hb⟩ := hrel
    have hlt : k < L.length := by omega
    obtain ⟨b, off, rfl, hbs, hc⟩ := hA.at_ (by omega)
    have h1 := cell_keep (hc k hlt) hb
    clear hc
    have HN : Hid (nth L k ≠ x → k < j0) := fun h => by
      have h2 := HJ.out
      rcases Nat.lt_or_ge k j0 with h' | h'
      · exact h'
      · have : k = j0 := by omega
        subst this; exact absurd h2 h
    generalize nth L k = y at *
    by_cases hy : y = x
    · go_wp2
      go_ret
      exact ⟨rfl, hb⟩
    · have hk2 := HN.out hy
      go_wp2
      go_roundw
      case rel => exact ⟨k + 1, by go_num, by omega, hb⟩
      case measure => simp [intOf]; omega
end Go.Proofs.Ytjbmpnbfiahdhaa
namespace Go.Proofs.Ytjbmpnbfiahdhaa
open Go.RowKit
set_option linter.unusedVariables false
set_option maxRecDepth 100000

set_option maxHeartbeats 3200000 in
theorem c_CheckDerivation (n : Int) (oa) (cap : Nat) (D : List (Int × Int)) (l r : Int) (ob) (cbp : Nat) (S : List T3) (w : World) (hD : DepsAt w oa D) (hS : DersAt w ob S) :
    Ans Try.prog 36 #[.int .i64 n, .slice oa D.length cap, .agg #[.int .i64 l, .int .i64 r], .slice ob S.length cbp] w (.bool (checkF n D l r S)) := by
  unfold Ans
  have hnD : D.length ≤ 1073741824 := hD.len
  have hnS : S.length ≤ 1073741824 := hS.len
  have hb := (Below.refl w.heap.size w).alloc (Nat.le_refl _) (.cells #[.int .i64 l, .int .i64 r] 55)
  have b0 := box_at w #[.int .i64 l, .int .i64 r] 55 0 _ rfl
  have b1 := box_at w #[.int .i64 l, .int .i64 r] 55 1 _ rfl
  cases ha : areDepsF n D
  · go_enter Try.func36, Try.ntmps36
    go_wp2_with (first | (go_at_call 82; refine Calls.mono (Ans.eqb (c_AreDeps _ _ _ _ _ (hD.keep hb)) ha) ?_; rintro e w1 ⟨rfl, hbn⟩; replace hb := bel_to (w := w) (by first | exact hb | exact hb.alloc hb.size _ | exact (hb.alloc hb.size _).alloc (Nat.le_trans hb.size (by simp)) _ | exact hb.setCell (by simp [hb.size]) _) hbn; clear hbn))
    go_ret
    exact ⟨ret_bool (by simp [checkF, ha]), hb⟩
  · have hv := (areDepsF_val ha).1
    have hD20 := (areDepsF_val ha).2.2.2
    cases hi : isDepF n l r
    · go_enter Try.func36, Try.ntmps36
      go_wp2_with (first | (go_at_call 82; refine Calls.mono (Ans.eqb (c_AreDeps _ _ _ _ _ (hD.keep hb)) ha) ?_; rintro e w1 ⟨rfl, hbn⟩; replace b0 := cell_keep b0 hbn; replace b1 := cell_keep b1 hbn; replace hb := bel_to (w := w) (by first | exact hb | exact hb.alloc hb.size _ | exact (hb.alloc hb.size _).alloc (Nat.le_trans hb.size (by simp)) _ | exact hb.setCell (by simp [hb.size]) _) hbn; clear hbn) | (go_at_call 59; refine Calls.mono (Ans.eqb (c_isDep _ _ _ _) hi) ?_; rintro e w1 ⟨rfl, hbn⟩; replace hb := bel_to (w := w) (by first | exact hb | exact hb.alloc hb.size _ | exact (hb.alloc hb.size _).alloc (Nat.le_trans hb.size (by simp)) _ | exact hb.setCell (by simp [hb.size]) _) hbn; clear hbn))
      go_ret
      exact ⟨ret_bool (by simp [checkF, ha, hi]), hb⟩
    · obtain ⟨⟨hl, hr⟩, h15⟩ := isDepF_val hi
      have hr0 : 0 ≤ r := hr.1
      have hr1 : r < 5 := hr.2
      have HM : Hid (checkF n D l r S = chk D r S l) := by unfold checkF; rw [ha, hi]; rfl
      go_enter Try.func36, Try.ntmps36
      go_wp2_with (first | (go_at_call 82; refine Calls.mono (Ans.eqb (c_AreDeps _ _ _ _ _ (hD.keep hb)) ha) ?_; rintro e w1 ⟨rfl, hbn⟩; replace b0 := cell_keep b0 hbn; replace b1 := cell_keep b1 hbn; replace hb := bel_to (w := w) (by first | exact hb | exact hb.alloc hb.size _ | exact (hb.alloc hb.size _).alloc (Nat.le_trans hb.size (by simp)) _ | exact hb.setCell (by simp [hb.size]) _) hbn; clear hbn) | (go_at_call 59; refine Calls.mono (Ans.eqb (c_isDep _ _ _ _) hi) ?_; rintro e w1 ⟨rfl, hbn⟩; replace b0 := cell_keep b0 hbn; replace b1 := cell_keep b1 hbn; replace hb := bel_to (w := w) (by first | exact hb | exact hb.alloc hb.size _ | exact (hb.alloc hb.size _).alloc (Nat.le_trans hb.size (by simp)) _ | exact hb.setCell (by simp [hb.size]) _) hbn; clear hbn))
      go_loopw [9, 26] (fun t i wr => ∃ (x : Int) (k : Nat), t = .int .i64 x ∧ i = .int .i64 k ∧ k ≤ S.length ∧ St x ∧ chk D r (S.drop k) x = chk D r S l ∧ wr.cell? ⟨w.heap.size, 0, none⟩ = some (.int .i64 l) ∧ wr.cell? ⟨w.heap.size, 1, none⟩ = some (.int .i64 r) ∧ Below w.heap.size w wr) (fun _ i _ => S.length - (intOf i).toNat)
      case atStart => exact ⟨l, 0, rfl, rfl, Nat.zero_le _, hl, rfl, b0, b1, hb⟩
      case round =>
        clear b0 b1 hb
        obtain ⟨x, k, rfl, rfl, hk, hx, hro, b0, b1, hb⟩ := hrel
        have HR : Hid (chk D r (S.drop k) x = chk D r S l) := hro
        clear hro
        by_cases hlt : k < S.length
        · obtain ⟨bs, offs, rfl, hbs, hcs⟩ := hS.at_ (by omega)
          have s0 := cell_keep (hcs k hlt).1 hb
          have s1 := cell_keep (hcs k hlt).2.1 hb
          have s2 := cell_keep (hcs k hlt).2.2 hb
          have HC : Hid (chk D r (S.drop k) x = (stepOk D x (ta S k, tb S k, tc S k) && chk D r (S.drop (k + 1)) (tc S k))) := chk_step hlt x
          clear hcs
          generalize ta S k = a at *
          generalize tb S k = b at *
          generalize tc S k = c at *
          have hb2 := hb.alloc hb.size (.cells #[.int .i64 a, .int .i64 b, .int .i64 c] 119)
          have hbx := (Below.refl wr.heap.size wr).alloc (Nat.le_refl _) (.cells #[.int .i64 a, .int .i64 b, .int .i64 c] 119)
          have c0 := box_at wr #[.int .i64 a, .int .i64 b, .int .i64 c] 119 0 _ rfl
          have c1 := box_at wr #[.int .i64 a, .int .i64 b, .int .i64 c] 119 1 _ rfl
          have c2 := box_at wr #[.int .i64 a, .int .i64 b, .int .i64 c] 119 2 _ rfl
          replace b0 := cell_keep b0 hbx
          replace b1 := cell_keep b1 hbx
          clear hbx
          cases e1 : (b == x)
          · have e1' : (b != x) = true := by simp [bne, e1]
            have HE : Hid (chk D r S l = false) := by show chk D r S l = false; rw [← HR.out, HC.out]; unfold stepOk; simp [e1]
            clear HR HC
            replace hb := hb2
            clear hb2
            go_wp2_with (first | fail)
            go_ret
            exact ⟨ret_bool (by rw [HM.out, HE.out]), hb⟩
          · have e1' : (b != x) = false := by simp [bne, e1]
            by_cases ha0 : a < 0
            · have g1 : decide (a < 0) = true := by simp [ha0]
              have h1 : inB a 0 ((D.length : Int) - 1) = false := by simp [inB]; omega
              have HE : Hid (chk D r S l = false) := by show chk D r S l = false; rw [← HR.out, HC.out]; unfold stepOk; simp [h1]
              clear HR HC h1
              replace hb := hb2
              clear hb2
              go_wp2_with (first | fail)
              go_ret
              exact ⟨ret_bool (by rw [HM.out, HE.out]), hb⟩
            · have g1 : decide (a < 0) = false := by simp; omega
              by_cases ha1 : (D.length : Int) ≤ a
              · have g2 : decide ((D.length : Int) ≤ a) = true := by simp [ha1]
                have h1 : inB a 0 ((D.length : Int) - 1) = false := by simp [inB]; omega
                have HE : Hid (chk D r S l = false) := by show chk D r S l = false; rw [← HR.out, HC.out]; unfold stepOk; simp [h1]
                clear HR HC h1
                replace hb := hb2
                clear hb2
                go_wp2_with (first | fail)
                go_ret
                exact ⟨ret_bool (by rw [HM.out, HE.out]), hb⟩
              · have g2 : decide ((D.length : Int) ≤ a) = false := by simp; omega
                have h1 : inB a 0 ((D.length : Int) - 1) = true := by simp [inB]; omega
                obtain ⟨j, rfl⟩ := Int.eq_ofNat_of_zero_le (show 0 ≤ a by omega)
                have hjl : j < D.length := by omega
                obtain ⟨bD, offD, rfl, hbD, hcD⟩ := hD.at_ (by omega)
                have d0 := cell_keep (hcD j hjl).1 hb2
                have d1 := cell_keep (hcD j hjl).2 hb2
                obtain ⟨hvl, hvr⟩ := hv.at_ hjl
                have hr0 : 0 ≤ nr D j := hvr.1
                have hr1 : nr D j < 5 := hvr.2
                have q1 : (0 : Int) ≤ (j : Int) := by omega
                have q2 : (j : Int) < (D.length : Int) := by omega
                clear hcD ha0 ha1
                cases h3 : ins (nl D j) x
                · have h3a : insA (nl D j) x = false := by rw [insA_eq hvl hx]; exact h3
                  have HE : Hid (chk D r S l = false) := by show chk D r S l = false; rw [← HR.out, HC.out]; unfold stepOk; simp [h3a]
                  clear HR HC h3a h1
                  replace hb := hb2
                  clear hb2
                  go_wp2_with (first | (go_at_call 106; refine Calls.mono (Ans.eqb (c_inside _ _ _) h3) ?_; rintro e w1 ⟨rfl, hbn⟩; replace c0 := cell_keep c0 hbn; replace c1 := cell_keep c1 hbn; replace c2 := cell_keep c2 hbn; replace d0 := cell_keep d0 hbn; replace d1 := cell_keep d1 hbn; replace hb := bel_to (w := w) (by first | exact hb | exact hb.alloc hb.size _ | exact (hb.alloc hb.size _).alloc (Nat.le_trans hb.size (by simp)) _ | exact hb.setCell (by simp [hb.size]) _) hbn; clear hbn))
                  go_ret
                  exact ⟨ret_bool (by rw [HM.out, HE.out]), hb⟩
                · have h3a : insA (nl D j) x = true := by rw [insA_eq hvl hx]; exact h3
                  cases h4 : (c == uni x (one (nr D j)))
                  · have h4' : (c == bits BinOp.or IntKind.i64 x (wrap64 (2 ^ (nr D j).toNat))) = false := h4
                    have h4'' : (c != bits BinOp.or IntKind.i64 x (wrap64 (2 ^ (nr D j).toNat))) = true := by simp [bne, h4']
                    have HE : Hid (chk D r S l = false) := by show chk D r S l = false; rw [← HR.out, HC.out]; unfold stepOk; simp [h4]
                    clear HR HC h3a h1 h4
                    replace hb := hb2
                    clear hb2
                    go_wp2_with (first | (go_at_call 106; refine Calls.mono (Ans.eqb (c_inside _ _ _) h3) ?_; rintro e w1 ⟨rfl, hbn⟩; replace c0 := cell_keep c0 hbn; replace c1 := cell_keep c1 hbn; replace c2 := cell_keep c2 hbn; replace d0 := cell_keep d0 hbn; replace d1 := cell_keep d1 hbn; replace hb := bel_to (w := w) (by first | exact hb | exact hb.alloc hb.size _ | exact (hb.alloc hb.size _).alloc (Nat.le_trans hb.size (by simp)) _ | exact hb.setCell (by simp [hb.size]) _) hbn; clear hbn))
                    go_ret
                    exact ⟨ret_bool (by rw [HM.out, HE.out]), hb⟩
                  · have h4' : (c == bits BinOp.or IntKind.i64 x (wrap64 (2 ^ (nr D j).toNat))) = true := h4
                    have h4'' : (c != bits BinOp.or IntKind.i64 x (wrap64 (2 ^ (nr D j).toNat))) = false := by simp [bne, h4']
                    have HX : c = uni x (one (nr D j)) := by simpa using h4
                    have HE : Hid (chk D r (S.drop (k + 1)) (uni x (one (nr D j))) = chk D r S l) := by rw [← HR.out, HC.out]; unfold stepOk; simp only [h1, e1, Int.toNat_natCast, h3a, h4]; rw [HX]; rfl
                    have HST : Hid (St (uni x (one (nr D j)))) := uni_st hx (one_st hvr)
                    clear HR HC h3a h1 h4 HX
                    replace hb := hb2
                    clear hb2
                    go_wp2_with (first | (go_at_call 106; refine Calls.mono (Ans.eqb (c_inside _ _ _) h3) ?_; rintro e w1 ⟨rfl, hbn⟩; replace c0 := cell_keep c0 hbn; replace c1 := cell_keep c1 hbn; replace c2 := cell_keep c2 hbn; replace d0 := cell_keep d0 hbn; replace d1 := cell_keep d1 hbn; replace b0 := cell_keep b0 hbn; replace b1 := cell_keep b1 hbn; replace hb := bel_to (w := w) (by first | exact hb | exact hb.alloc hb.size _ | exact (hb.alloc hb.size _).alloc (Nat.le_trans hb.size (by simp)) _ | exact hb.setCell (by simp [hb.size]) _) hbn; clear hbn))
                    go_roundw
                    case rel => exact ⟨uni x (one (nr D j)), k + 1, rfl, by go_num, by omega, HST.out, HE.out, b0, b1, hb⟩
                    case measure => simp [intOf]; omega
        · have hkk : k = S.length := by omega
          have HE : Hid (hasc x r = chk D r S l) := by rw [← HR.out, hkk, List.drop_length]; rfl
          clear hkk HR
          have hr2 : 0 ≤ r ∧ r < 64 := co64 hr
          go_wp2_with (first | (go_at_call 105; refine Calls.mono (c_has _ _ hr2 _) ?_; rintro e w1 ⟨rfl, hbn⟩; replace hb := bel_to (w := w) (by first | exact hb | exact hb.alloc hb.size _ | exact (hb.alloc hb.size _).alloc (Nat.le_trans hb.size (by simp)) _ | exact hb.setCell (by simp [hb.size]) _) hbn; clear hbn))
          go_ret
          exact ⟨ret_bool (by rw [HM.out, ← HE.out]), hb⟩
end Go.Proofs.Ytjbmpnbfiahdhaa
namespace Go.Proofs.Ytjbmpnbfiahdhaa
open Go.RowKit
set_option linter.unusedVariables false
set_option maxRecDepth 100000

set_option maxHeartbeats 3200000 in
theorem c_DeriveDep (n : Int) (oa) (cap : Nat) (D : List (Int × Int)) (l r : Int) (w : World) (hD : DepsAt w oa D) :
    Calls Try.prog 33 #[.int .i64 n, .slice oa D.length cap, .agg #[.int .i64 l, .int .i64 r]] w fun e w' => ∃ v L, e = .returned (.tuple #[v, .bool (impliesDepF n D l r)]) ∧ Derives n D l r L ∧ OwnT w' w.heap.size v L ∧ Below w.heap.size w w' := by
  obtain ⟨i0, hi, hz0, hz1, hz2⟩ := info_parts info_derived
  have hn : D.length ≤ 1073741824 := hD.len
  have hb := (Below.refl w.heap.size w).alloc (Nat.le_refl _) (.cells #[.int .i64 l, .int .i64 r] 55)
  have b0 := box_at w #[.int .i64 l, .int .i64 r] 55 0 _ rfl
  have b1 := box_at w #[.int .i64 l, .int .i64 r] 55 1 _ rfl
  cases himp : impliesDepF n D l r
  · have HV : Hid (Derives n D l r []) := ⟨fun h => (by rw [himp] at h; cases h), fun _ => rfl, Nat.zero_le _⟩
    go_enter Try.func33, Try.ntmps33
    go_wp2_with (first | (go_at_call 32; refine Calls.mono (Ans.eqb (c_ImpliesDep _ _ _ _ _ _ _ (hD.keep hb)) himp) ?_; rintro e w1 ⟨rfl, hbn⟩; replace hb := bel_to (w := w) (by first | exact hb | exact hb.alloc hb.size _ | exact (hb.alloc hb.size _).alloc (Nat.le_trans hb.size (by simp)) _ | exact hb.setCell (by simp [hb.size]) _) hbn; clear hbn))
    go_ret2
    exact ⟨_, [], rfl, HV.out, OwnT.nil _ _, hb⟩
  · obtain ⟨hv, hl, hr⟩ := impliesDepF_val himp
    have hr2 := co64 hr
    have HV : Hid (∀ L, L.length ≤ 31 → Drv D r l 0 L → Derives n D l r L) := fun L hL h => ⟨fun _ => h, fun h' => (by rw [himp] at h'; cases h'), hL⟩
    go_enter Try.func33, Try.ntmps33
    go_wp2_with fail
    refine Calls.mono (Ans.eqb (c_ImpliesDep _ _ _ _ _ _ _ (hD.keep hb)) himp) ?_
    rintro e w1 ⟨rfl, hbn⟩
    replace b0 := cell_keep b0 hbn
    replace b1 := cell_keep b1 hbn
    replace hb := bel_to hb hbn
    clear hbn himp
    have hbx := (Below.refl w1.heap.size w1).alloc (Nat.le_refl _) (.cells #[] 119)
    have hI := OwnT.empty w1 (w.heap.size + 1) (World.block_lt_of_cell? w1 _ b0)
    replace b0 := cell_keep b0 hbx
    replace b1 := cell_keep b1 hbx
    replace hb := bel_to hb hbx
    clear hbx
    go_wp2
    go_loopw [8, 9, 10] (fun v t i wr => ∃ (A : List T3) (x : Int) (k : Nat), t = .int .i64 x ∧ i = .int .i64 k ∧ k ≤ D.length ∧ St x ∧ A.length ≤ x.toNat ∧ (∀ L, Drv D r x k L → Drv D r l 0 (A ++ L)) ∧
      wr.cell? ⟨w.heap.size, 0, none⟩ = some (.int .i64 l) ∧ wr.cell? ⟨w.heap.size, 1, none⟩ = some (.int .i64 r) ∧ OwnT wr (w.heap.size + 1) v A ∧ Below w.heap.size w wr) (fun _ t i _ => (31 - (intOf t).toNat) * (D.length + 1) + (D.length - (intOf i).toNat))
    case atStart => exact ⟨[], l, 0, rfl, rfl, Nat.zero_le _, hl, Nat.zero_le _, fun L h => h, b0, b1, hI, hb⟩
    case round =>
      clear hI hb b0 b1
      obtain ⟨A, x, k, rfl, rfl, hk, hx, hA, hdr, b0, b1, hI, hb⟩ := hrel
      have HD : Hid (∀ L, Drv D r x k L → Drv D r l 0 (A ++ L)) := hdr
      have hx31 : x.toNat ≤ 31 := by have := hx.1; have := hx.2; omega
      clear hdr
      by_cases hlt : k < D.length
      · cases hh : hasc x r
        · obtain ⟨b, off, rfl, hbs, hc⟩ := hD.at_ (by omega)
          have hc1 := cell_keep (hc k hlt).1 hb
          have hc2 := cell_keep (hc k hlt).2 hb
          obtain ⟨hvl, hvr⟩ := hv.at_ hlt
          have hr0 : 0 ≤ nr D k := hvr.1
          have hr1 : nr D k < 5 := hvr.2
          have hr3 := co64 hvr
          clear hc
          cases h1 : ins (nl D k) x
          · have HN : Hid (∀ L, Drv D r x (k + 1) L → Drv D r l 0 (A ++ L)) := fun L hL => HD.out L (.skip hh hlt (by rw [h1]; rfl) hL)
            go_wp2_with (first | (go_at_call 106; refine Calls.mono (Ans.eqb (c_inside _ _ _) h1) ?_; rintro e w1 ⟨rfl, hbn⟩; replace b0 := cell_keep b0 hbn; replace b1 := cell_keep b1 hbn; replace hc1 := cell_keep hc1 hbn; replace hc2 := cell_keep hc2 hbn; replace hI := hI.keep hbn; replace hb := bel_to (w := w) (by first | exact hb | exact hb.alloc hb.size _ | exact (hb.alloc hb.size _).alloc (Nat.le_trans hb.size (by simp)) _ | exact hb.setCell (by simp [hb.size]) _) hbn; clear hbn) | (go_at_call 105; refine Calls.mono (Ans.eqb (c_has x r hr2 _) hh) ?_; rintro e w1 ⟨rfl, hbn⟩; replace b0 := cell_keep b0 hbn; replace b1 := cell_keep b1 hbn; replace hc1 := cell_keep hc1 hbn; replace hc2 := cell_keep hc2 hbn; replace hI := hI.keep hbn; replace hb := bel_to hb hbn; clear hbn))
            go_roundw
            case rel => exact ⟨A, x, k + 1, rfl, by go_num, by omega, hx, hA, HN.out, b0, b1, hI, hb⟩
            case measure => simp [intOf]; omega
          · cases h2 : hasc x (nr D k)
            · have hlt2 := uni_lt hx hvr h2
              have HST : Hid (St (uni x (one (nr D k)))) := uni_st hx (one_st hvr)
              have HLT : Hid (x < uni x (one (nr D k))) := hlt2
              have HN : Hid (∀ L, Drv D r (uni x (one (nr D k))) 0 L → Drv D r l 0 ((A ++ [((k : Int), x, uni x (one (nr D k)))]) ++ L)) := fun L hL => by
                rw [List.append_assoc]; exact HD.out _ (.take hh hlt h1 h2 hL)
              clear hlt2
              go_wp2_with (first | (go_at_call 106; refine Calls.mono (Ans.eqb (c_inside _ _ _) h1) ?_; rintro e w1 ⟨rfl, hbn⟩; replace b0 := cell_keep b0 hbn; replace b1 := cell_keep b1 hbn; replace hc1 := cell_keep hc1 hbn; replace hc2 := cell_keep hc2 hbn; replace hI := hI.keep hbn; replace hb := bel_to (w := w) (by first | exact hb | exact hb.alloc hb.size _ | exact (hb.alloc hb.size _).alloc (Nat.le_trans hb.size (by simp)) _ | exact hb.setCell (by simp [hb.size]) _) hbn; clear hbn) | (go_at_call 105; refine Calls.mono (Ans.eqb (c_has x r hr2 _) hh) ?_; rintro e w1 ⟨rfl, hbn⟩; replace b0 := cell_keep b0 hbn; replace b1 := cell_keep b1 hbn; replace hc1 := cell_keep hc1 hbn; replace hc2 := cell_keep hc2 hbn; replace hI := hI.keep hbn; replace hb := bel_to hb hbn; clear hbn) | (go_at_call 105; refine Calls.mono (Ans.eqb (c_has x (nr D k) hr3 _) h2) ?_; rintro e w1 ⟨rfl, hbn⟩; replace b0 := cell_keep b0 hbn; replace b1 := cell_keep b1 hbn; replace hc1 := cell_keep hc1 hbn; replace hc2 := cell_keep hc2 hbn; replace hI := hI.keep hbn; replace hb := bel_to hb hbn; clear hbn) | (at_builtin; refine wpList_append_own _ rfl _ _ 59 rfl (w.heap.size + 1) 119 i0 (.agg #[.int .i64 0, .int .i64 0, .int .i64 0]) 3 24 Try.underlying59 hi hz0 hz1 hz2 rfl (by decide) _ _ _ rfl (World.ownsRow.alloc hI _) _ 1 1 [.int .i64 (k : Int), .int .i64 x, .int .i64 (uni x (one (nr D k)))] rfl rfl (World.news_of_block (cs := #[.int .i64 (k : Int), .int .i64 x, .int .i64 (uni x (one (nr D k)))]) (t := 119) (fr := (0, 0)) (heap_alloc_new _ _)) (by intro u hu; simp at hu; rcases hu with rfl | rfl | rfl <;> rfl) (by unfold maxLen; omega) (by omega) (Nat.le_trans (World.block_lt_of_cell? _ _ b0) (by simp)) ?_; intro v' w1 hown hgrow _; replace b0 := cell_grow (cell_alloc b0 _) (World.ownsRow.alloc hI _) (Nat.lt_succ_self _) hgrow; replace b1 := cell_grow (cell_alloc b1 _) (World.ownsRow.alloc hI _) (Nat.lt_succ_self _) hgrow; replace hb := (hb.alloc hb.size _).grown hgrow (by have := hb.size; simp; omega) (fun g hg => Nat.le_of_succ_le (World.ownsRow.lt hI g hg).1); replace hI := OwnT.snoc hown; clear hown hgrow))
              go_roundw
              case rel => exact ⟨A ++ [((k : Int), x, uni x (one (nr D k)))], uni x (one (nr D k)), 0, rfl, by go_num, Nat.zero_le _, HST.out, by have h3 := HLT.out; have h4 := hx.1; rw [List.length_append]; simp only [List.length_cons, List.length_nil]; omega, HN.out, b0, b1, hI, hb⟩
              case measure =>
                have h1 := HLT.out
                have h2 := HST.out.1
                have h3 := HST.out.2
                have h4 := hx.1
                show (31 - (uni x (one (nr D k))).toNat) * (D.length + 1) + (D.length - 0) < (31 - x.toNat) * (D.length + 1) + (D.length - k)
                generalize uni x (one (nr D k)) = y at *
                obtain ⟨m, hm⟩ : ∃ m, 31 - x.toNat = (31 - y.toNat) + 1 + m := ⟨(31 - x.toNat) - (31 - y.toNat) - 1, by omega⟩
                rw [hm, Nat.add_mul, Nat.add_mul]
                omega
            · have HN : Hid (∀ L, Drv D r x (k + 1) L → Drv D r l 0 (A ++ L)) := fun L hL => HD.out L (.skip hh hlt (by rw [h1, h2]; rfl) hL)
              go_wp2_with (first | (go_at_call 106; refine Calls.mono (Ans.eqb (c_inside _ _ _) h1) ?_; rintro e w1 ⟨rfl, hbn⟩; replace b0 := cell_keep b0 hbn; replace b1 := cell_keep b1 hbn; replace hc1 := cell_keep hc1 hbn; replace hc2 := cell_keep hc2 hbn; replace hI := hI.keep hbn; replace hb := bel_to (w := w) (by first | exact hb | exact hb.alloc hb.size _ | exact (hb.alloc hb.size _).alloc (Nat.le_trans hb.size (by simp)) _ | exact hb.setCell (by simp [hb.size]) _) hbn; clear hbn) | (go_at_call 105; refine Calls.mono (Ans.eqb (c_has x r hr2 _) hh) ?_; rintro e w1 ⟨rfl, hbn⟩; replace b0 := cell_keep b0 hbn; replace b1 := cell_keep b1 hbn; replace hc1 := cell_keep hc1 hbn; replace hc2 := cell_keep hc2 hbn; replace hI := hI.keep hbn; replace hb := bel_to hb hbn; clear hbn) | (go_at_call 105; refine Calls.mono (Ans.eqb (c_has x (nr D k) hr3 _) h2) ?_; rintro e w1 ⟨rfl, hbn⟩; replace b0 := cell_keep b0 hbn; replace b1 := cell_keep b1 hbn; replace hc1 := cell_keep hc1 hbn; replace hc2 := cell_keep hc2 hbn; replace hI := hI.keep hbn; replace hb := bel_to hb hbn; clear hbn))
              go_roundw
              case rel => exact ⟨A, x, k + 1, rfl, by go_num, by omega, hx, hA, HN.out, b0, b1, hI, hb⟩
              case measure => simp [intOf]; omega
        · have HE : Hid (Drv D r l 0 A) := by have := HD.out [] (.done hh); rw [List.append_nil] at this; exact this
          go_wp2_with (first | (go_at_call 105; refine Calls.mono (Ans.eqb (c_has _ _ hr2 _) hh) ?_; rintro e w1 ⟨rfl, hbn⟩; replace b0 := cell_keep b0 hbn; replace b1 := cell_keep b1 hbn; replace hI := hI.keep hbn; replace hb := bel_to (w := w) (by first | exact hb | exact hb.alloc hb.size _ | exact (hb.alloc hb.size _).alloc (Nat.le_trans hb.size (by simp)) _ | exact hb.setCell (by simp [hb.size]) _) hbn; clear hbn))
          go_ret2
          exact ⟨_, A, rfl, HV.out A (by omega) HE.out, hI.based (Nat.le_succ _), hb⟩
      · have HE : Hid (Drv D r l 0 A) := by
          have := HD.out []
          rw [List.append_nil] at this
          cases hh : hasc x r with
          | true => exact this (.done hh)
          | false => exact this (.stop hh (by omega))
        go_wp2
        go_ret2
        exact ⟨_, A, rfl, HV.out A (by omega) HE.out, hI.based (Nat.le_succ _), hb⟩
end Go.Proofs.Ytjbmpnbfiahdhaa
namespace Go.Proofs.Ytjbmpnbfiahdhaa
open Go.RowKit
set_option linter.unusedVariables false

/-- The rows that the first k closed sets of L give, behind a row of zeros. -/
def armUpTo (N : Nat) (L : List Int) (k : Nat) : List (List Int) :=
  List.replicate N 0 :: ((List.range k).filter fun i => !(nth L i == 2 ^ N - 1)).map fun (i : Nat) => rowForF N (nth L i) ((i : Int) + 1)
theorem arm_zero (N : Nat) (L : List Int) : armUpTo N L 0 = [List.replicate N 0] := rfl
theorem arm_succ (N : Nat) (L : List Int) (k : Nat) : armUpTo N L (k + 1) = armUpTo N L k ++ (if (nth L k == 2 ^ N - 1) then [] else [rowForF N (nth L k) ((k : Int) + 1)]) := by
  unfold armUpTo
  rw [List.range_succ, List.filter_append, List.map_append, List.cons_append]
  cases h : (nth L k == 2 ^ N - 1) <;> simp [h]
theorem arm_len (N : Nat) (L : List Int) (k : Nat) : (armUpTo N L k).length ≤ k + 1 := by
  unfold armUpTo
  have := List.length_filter_le (fun i => !(nth L i == 2 ^ N - 1)) (List.range k)
  simp at this ⊢; omega
theorem arm_rows (N : Nat) (L : List Int) (k : Nat) {r : List Int} (h : r ∈ armUpTo N L k) : r.length = N := by
  unfold armUpTo at h
  rcases List.mem_cons.1 h with rfl | h
  · simp
  · obtain ⟨i, _, rfl⟩ := List.mem_map.1 h
    exact rowFor_len _ _ _
end Go.Proofs.Ytjbmpnbfiahdhaa
namespace Go.Proofs.Ytjbmpnbfiahdhaa
open Go.RowKit
set_option linter.unusedVariables false
set_option maxRecDepth 100000

/-- Neither the list nor a row of it lies in block k. -/
def Avoid (k : Nat) (v : Value) (xs : List Value) : Prop := ∀ y, y = v ∨ y ∈ xs → y.ownBlock ≠ some k
theorem set_apart {w : World} {B size n k j : Nat} {e : TypeId} {y u : Value} {ys : List Value} (h : w.ownsRow B e size y n ys) (hk : y.ownBlock ≠ some k) : (w.setCell ⟨k, j, none⟩ u).ownsRow B e size y n ys :=
  World.ownsRow.kept h (grown_set w k j _) (.inr hk)
theorem ownRows_setAvoid {w : World} {B k : Nat} {v : Value} {xs : List Value} {R : List (List Int)} (h : OwnRows w B v xs R) (ha : Avoid k v xs) (j : Nat) (u : Value) : OwnRows (w.setCell ⟨k, j, none⟩ u) B v xs R :=
  ⟨h.len, set_apart h.outer (ha v (.inl rfl)), fun t ht => by
    obtain ⟨o, c, h1, h2, h3⟩ := h.rows t ht
    exact ⟨o, c, h1, set_apart h2 (ha _ (.inr (List.mem_iff_getElem?.2 ⟨t, h1⟩))), h3⟩, h.pair⟩
/-- 't.Rows = append(t.Rows, r)' for a table that the call made. -/
theorem tab_snoc {w w5 w7 : World} {B k6 c c5 nC : Nat} {hd v' : Value} {T T2 : TypeId} {o o5 : Option Addr} {xs : List Value} {P : List (List Int)} {C : List Int} (hnC : C.length = nC)
    (hO : OwnRows w5 B (.slice o P.length c) xs P) (hC : OwnI w5 B (.slice o5 nC c5) C) (hap : ApartR (.slice o P.length c) xs (.slice o5 nC c5))
    (kb : Blk w5 k6 #[hd, .slice o P.length c] T) (av : Avoid k6 (.slice o P.length c) xs) (avC : (Value.slice o5 nC c5).ownBlock ≠ some k6) (hb : Below w.heap.size w w5) (hB : w.heap.size ≤ B) (hk6 : w.heap.size ≤ k6)
    (hown : w7.ownsRow B 68 1 v' (xs.length + 1) (xs ++ [.slice o5 nC c5])) (hgrow : (w5.alloc (.cells #[.slice o5 nC c5] T2)).grownBy w7 (Value.slice o P.length c).ownBlock) (hfr : Fresh (w5.alloc (.cells #[.slice o5 nC c5] T2)) (.slice o P.length c) v') :
    (∃ o' c', v' = .slice o' (P.length + 1) c') ∧ w7.cell? ⟨k6, 1, none⟩ = some (.slice o P.length c) ∧ w7.frozen? ⟨k6, 1, none⟩ = false ∧ Blk (w7.setCell ⟨k6, 1, none⟩ v') k6 #[hd, v'] T ∧
    OwnRows (w7.setCell ⟨k6, 1, none⟩ v') B v' (xs ++ [.slice o5 nC c5]) (P ++ [C]) ∧ Avoid k6 v' (xs ++ [.slice o5 nC c5]) ∧ Below w.heap.size w (w7.setCell ⟨k6, 1, none⟩ v') ∧
    (∀ (B' : Nat) (e : TypeId) (size : Nat) (u : Value) (n : Nat) (ys : List Value), w5.ownsRow B' e size u n ys → Apart u (.slice o P.length c) → u.ownBlock ≠ some k6 → (w7.setCell ⟨k6, 1, none⟩ v').ownsRow B' e size u n ys ∧ Apart u v') ∧
    (∀ (g : Nat) (cs : Array Value) (T' : TypeId), Blk w5 g cs T' → g ≠ k6 → (Value.slice o P.length c).ownBlock ≠ some g → Blk (w7.setCell ⟨k6, 1, none⟩ v') g cs T') := by
  subst hnC
  have hO2 := OwnRows.snoc hO hC hap hown hgrow hfr
  have hsh : ∃ o' c', v' = .slice o' (P.length + 1) c' := by
    obtain ⟨o', c', e⟩ := hO2.shape
    exact ⟨o', c', by rw [e]; simp⟩
  have hv : v'.ownBlock ≠ some k6 := by
    rcases hfr with h | h
    · rw [h]; exact av _ (.inl rfl)
    · intro e
      have h1 := h k6 e
      have h2 := kb.lt
      simp at h1; omega
  have av2 : Avoid k6 v' (xs ++ [.slice o5 C.length c5]) := by
    intro y hy
    rcases hy with rfl | hy
    · exact hv
    · rcases List.mem_append.1 hy with hy | hy
      · exact av y (.inr hy)
      · rw [List.mem_singleton] at hy; subst hy; exact avC
  have k7 : Blk w7 k6 #[hd, .slice o P.length c] T := (kb.alloc _).grown hgrow (fun e => av _ (.inl rfl) e.symm)
  have hb7 : Below w.heap.size w w7 := (hb.alloc hb.size _).grown hgrow (by have := hb.size; simp; omega) (fun g hg => Nat.le_trans hB (World.ownsRow.lt hO.outer g hg).1)
  refine ⟨hsh, k7.cell 1 _ rfl, k7.free 1, k7.set 1 v', ownRows_setAvoid hO2 av2 1 v', av2, Below.setCell (p := (⟨k6, 1, none⟩ : Addr)) hb7 hk6 v', ?_, ?_⟩
  · intro B' e size u n ys h ha hk
    have h1 := World.ownsRow.alloc h (.cells #[.slice o5 C.length c5] T2)
    exact ⟨set_apart (World.ownsRow.kept h1 hgrow ha) hk, Apart.next h1 ha hfr⟩
  · intro g cs T' h hg hne
    exact ((h.alloc _).grown hgrow (fun e => hne e.symm)).far ⟨k6, 1, none⟩ v' hg

def armO (n : Int) (D : List (Int × Int)) : List (List Int) := if areDepsF n D then armUpTo n.toNat (closedSetsF n D) (closedSetsF n D).length else []
def armN (n : Int) (D : List (Int × Int)) : Int := if areDepsF n D then n else 0
def ArmAns (f : FuncId) (n : Int) (oa : Option Addr) (cap : Nat) (D : List (Int × Int)) (w : World) : Prop :=
  Calls Try.prog f #[.int .i64 n, .slice oa D.length cap] w fun e w' => ∃ o c xs, e = .returned (.tuple #[.agg #[.int .i64 (armN n D), .slice o (armO n D).length c], .bool (areDepsF n D)]) ∧ OwnRows w' w.heap.size (.slice o (armO n D).length c) xs (armO n D) ∧ Below w.heap.size w w'
theorem closedSets_le (n : Int) (D : List (Int × Int)) : (closedSetsF n D).length ≤ 32 := by
  unfold closedSetsF
  split
  · next h =>
    have h1 := (areDepsF_val h).2
    have := flt_le (fun x => cloF D x == x) (2 ^ n.toNat)
    have := (pow_nat (n := n) (by omega) h1.2.1).2.1
    omega
  · simp
theorem closedSets_st {n : Int} {D : List (Int × Int)} : ∀ x ∈ closedSetsF n D, St x := by
  intro x hx
  unfold closedSetsF at hx
  split at hx
  · next h =>
    have h1 := (areDepsF_val h).2
    have := (pow_nat (n := n) (by omega) h1.2.1).2.1
    have := (flt_mem.1 hx).1
    exact ⟨this.1, by omega⟩
  · cases hx
theorem nthI_mem {L : List Int} {k : Nat} (h : k < L.length) : nth L k ∈ L := List.mem_iff_getElem?.2 ⟨k, nth_eq h⟩
/-- What holds before the closed set k of L is treated. -/
def ArmI (N : Nat) (L : List Int) (vL : Value) (k6 : Nat) (w : World) (k : Nat) (wr : World) : Prop := ∃ (o : Option Addr) (c : Nat) (xs : List Value), Blk wr k6 #[.int .i64 N, .slice o (armUpTo N L k).length c] 26 ∧ OwnRows wr (w.heap.size + 1) (.slice o (armUpTo N L k).length c) xs (armUpTo N L k) ∧ Avoid k6 (.slice o (armUpTo N L k).length c) xs ∧ OwnI wr (w.heap.size + 1) vL L ∧ Apart vL (.slice o (armUpTo N L k).length c) ∧ Blk wr w.heap.size #[.int .i64 0, .slice none 0 0] 26 ∧ Below w.heap.size w wr
theorem ArmI.next {N : Nat} {L : List Int} {vL : Value} {k6 : Nat} {w : World} {k : Nat} {wr : World} {P : List (List Int)} {C : List Int} {o : Option Addr} {c : Nat} {xs : List Value} (hS : armUpTo N L (k + 1) = P ++ [C]) (h1 : Blk wr k6 #[.int .i64 N, .slice o (P.length + 1) c] 26) (h2 : OwnRows wr (w.heap.size + 1) (.slice o (P.length + 1) c) xs (P ++ [C])) (h3 : Avoid k6 (.slice o (P.length + 1) c) xs) (h4 : OwnI wr (w.heap.size + 1) vL L) (h5 : Apart vL (.slice o (P.length + 1) c)) (h6 : Blk wr w.heap.size #[.int .i64 0, .slice none 0 0] 26) (h7 : Below w.heap.size w wr) : ArmI N L vL k6 w (k + 1) wr := by
  unfold ArmI
  have e : (P ++ [C]).length = P.length + 1 := by simp
  rw [hS, e]
  exact ⟨o, c, xs, h1, h2, h3, h4, h5, h6, h7⟩
theorem c_ArmstrongTable_no (n : Int) (oa) (cap : Nat) (D : List (Int × Int)) (w : World) (hD : DepsAt w oa D) (ha : areDepsF n D = false) :
    Ans Try.prog 13 #[.int .i64 n, .slice oa D.length cap] w (.tuple #[.agg #[.int .i64 0, .slice none 0 0], .bool false]) := by
  unfold Ans
  have hb := (Below.refl w.heap.size w).alloc (Nat.le_refl _) (.cells #[.int .i64 0, .slice none 0 0] 26)
  have kZ := Blk.new w #[.int .i64 0, .slice none 0 0] 26
  go_enter Try.func13, Try.ntmps13
  go_wp2_with fail
  refine Calls.mono (Ans.eqb (c_AreDeps _ _ _ _ _ (hD.keep hb)) ha) ?_
  rintro e w1 ⟨rfl, hbn⟩
  replace kZ := kZ.keep hbn
  replace hb := bel_to hb hbn
  clear hbn
  have z0 := kZ.cell 0 (.int .i64 0) rfl
  have z1 := kZ.cell 1 (.slice none 0 0) rfl
  have f0 := kZ.free 0
  have f1 := kZ.free 1
  go_wp2
  exact bodyPost_ret (v := .tuple #[.agg #[.int .i64 0, .slice none 0 0], .bool false]) (by simp [results, Try.results13, go_sem, z0, z1]) rfl ⟨rfl, bel_set2 hb (Nat.le_refl _) _ _⟩
theorem ownRows_litRow {w : World} {B g n c : Nat} {o : Option Addr} {L : List Int} (hI : OwnI w B (.slice o n c) L) (hl : L.length = n) (hO : w.ownsRow B 68 1 (.slice (some ⟨g, 0, none⟩) 1 1) 1 [.slice o n c]) (hne : (Value.slice o n c).ownBlock ≠ some g) : OwnRows w B (.slice (some ⟨g, 0, none⟩) 1 1) [.slice o n c] [L] := by
  subst hl
  refine ⟨rfl, hO, fun j hj => ?_, fun i j hij hj => ?_⟩
  · match j, hj with
    | 0, _ => exact ⟨o, c, rfl, hI, apart_lit hne⟩
  · simp at hj; omega
set_option maxHeartbeats 1600000 in
theorem c_ArmstrongTable_ok (N : Nat) (oa) (cap : Nat) (D : List (Int × Int)) (w : World) (hD : DepsAt w oa D) (ha : areDepsF N D = true) :
    Calls Try.prog 13 #[.int .i64 N, .slice oa D.length cap] w fun e w' => ∃ o c xs, e = .returned (.tuple #[.agg #[.int .i64 N, .slice o (armUpTo N (closedSetsF N D) (closedSetsF N D).length).length c], .bool true]) ∧ OwnRows w' w.heap.size (.slice o (armUpTo N (closedSetsF N D) (closedSetsF N D).length).length c) xs (armUpTo N (closedSetsF N D) (closedSetsF N D).length) ∧ Below w.heap.size w w' := by
  have hb := (Below.refl w.heap.size w).alloc (Nat.le_refl _) (.cells #[.int .i64 0, .slice none 0 0] 26)
  have kZ := Blk.new w #[.int .i64 0, .slice none 0 0] 26
  obtain ⟨hv, hn1, hn5, _⟩ := areDepsF_val ha
  have hN : N ≤ 5 := by omega
  obtain ⟨i0, hi, hz0, hz1, hz2⟩ := info_parts info_int
  obtain ⟨j0, hj, hy0, hy1, hy2⟩ := info_parts info_ints
  have hp := pow_wrap (n := (N : Int)) (by omega) hn5
  simp only [Int.toNat_natCast] at hp
  have hp1 := hp.1
  have hp2 := hp.2.1
  have hp3 := hp.2.2
  clear hp
  go_enter Try.func13, Try.ntmps13
  go_wp2_with fail
  refine Calls.mono (Ans.eqb (c_AreDeps _ _ _ _ _ (hD.keep hb)) ha) ?_
  rintro e w1 ⟨rfl, hbn⟩
  replace kZ := kZ.keep hbn
  replace hb := bel_to hb hbn
  clear hbn
  have hz := kZ.lt
  go_wp2_with (first | (at_make; refine wpList_make_full _ rfl _ _ 68 rfl w1.heap.size 3 i0 (.int .i64 0) 1 Try.underlying68 hi hz0 hz1 .i64 .i64 _ _ N rfl rfl rfl rfl (by rw [hz2]; omega) (by unfold maxLen; omega) (Nat.le_refl _) ?_; intro w2 hown hgrow) | fail)
  have hb2 := below_grown hgrow (Nat.le_refl _) (by simp)
  have hM := ownI_made hown
  replace kZ := kZ.keep hb2
  have hbw2 := bel_to hb hb2
  have hsz2 := hb2.size
  clear hown hgrow hb2
  have hba := (Below.refl w2.heap.size w2).alloc (Nat.le_refl _) (.cells #[.slice (some ⟨w1.heap.size, 0, none⟩) N N] 68)
  have hO := ownRows_litRow ((hM.keep hba).based (show w.heap.size + 1 ≤ w1.heap.size by omega)) (by simp) (World.ownsRow_lit w2 #[.slice (some ⟨w1.heap.size, 0, none⟩) N N] 1 (show w.heap.size + 1 ≤ w2.heap.size by omega) (by decide) rfl) (fun e => by have := (World.ownsRow.lt hM _ e).2; omega)
  have av : Avoid (w2.heap.size + 1) (.slice (some ⟨w2.heap.size, 0, none⟩) 1 1) [.slice (some ⟨w1.heap.size, 0, none⟩) N N] := fun y hy e => by
    rcases hy with rfl | hy
    · simp [Value.ownBlock] at e
    · rw [List.mem_singleton] at hy; subst hy; simp [Value.ownBlock] at e; omega
  have kT := Blk.new (w2.alloc (.cells #[.slice (some ⟨w1.heap.size, 0, none⟩) N N] 68)) #[.int .i64 N, .slice (some ⟨w2.heap.size, 0, none⟩) 1 1] 26
  simp only [World.size_alloc] at kT
  replace kZ := (kZ.keep hba).alloc (.cells #[.int .i64 N, .slice (some ⟨w2.heap.size, 0, none⟩) 1 1] 26)
  have hbb := (bel_to hbw2 hba).alloc (bel_to hbw2 hba).size (.cells #[.int .i64 N, .slice (some ⟨w2.heap.size, 0, none⟩) 1 1] 26)
  replace hO := hO.keep ((Below.refl _ _).alloc (Nat.le_refl _) (.cells #[.int .i64 N, .slice (some ⟨w2.heap.size, 0, none⟩) 1 1] 26))
  clear hM hbw2 hba hb
  go_wp2_with fail
  refine (c_ClosedSets N oa cap D _ (hD.keep hbb)).mono ?_
  rintro e w3 ⟨vL, rfl, hL, hbn⟩
  have hk6 : w.heap.size < w2.heap.size + 1 := by omega
  have avL : vL.ownBlock ≠ some (w2.heap.size + 1) := fun e => by have := (World.ownsRow.lt hL _ e).1; simp at this; omega
  have apL := (apart_old hO.outer hL).symm
  replace hL := hL.based (show w.heap.size + 1 ≤ _ by simp; omega)
  replace hO := hO.keep hbn
  replace kT := kT.keep hbn
  replace kZ := kZ.keep hbn
  replace hbb := bel_to hbb hbn
  obtain ⟨oL, cL, rfl⟩ := hL.shape
  have hLl := closedSets_le N D
  have HST : Hid (∀ x ∈ closedSetsF N D, St x) := closedSets_st
  clear hbn
  generalize hA : closedSetsF N D = L at *
  have HA : Hid (closedSetsF N D = L) := hA
  clear hA
  generalize w2.heap.size + 1 = k6 at *
  generalize w2.heap.size = k5 at *
  clear hsz2
  go_wp2_with fail
  go_loopw [23] (fun i wr => ∃ (k : Nat), i = .int .i64 k ∧ k ≤ L.length ∧ ArmI N L (.slice oL L.length cL) k6 w k wr) (fun i _ => L.length - (intOf i).toNat)
  case atStart => exact ⟨0, rfl, Nat.zero_le _, _, 1, _, kT, hO, av, hL, apL, kZ, hbb⟩
  case round =>
    clear kT hO av hL apL kZ hbb
    obtain ⟨k, rfl, hk, hArm⟩ := hrel
    have HSame : Hid ((nth L k == 2 ^ N - 1) = true → ArmI N L (.slice oL L.length cL) k6 w (k + 1) wr) := fun h => by
      have e := arm_succ N L k
      rw [h, if_pos rfl, List.append_nil] at e
      unfold ArmI at hArm ⊢
      rw [e]; exact hArm
    obtain ⟨o, c, xs, kT, hO, av, hL, apL, kZ, hb⟩ := hArm
    have HS : Hid (armUpTo N L (k + 1) = armUpTo N L k ++ (if (nth L k == 2 ^ N - 1) then [] else [rowForF N (nth L k) ((k : Int) + 1)])) := arm_succ N L k
    have hPl := arm_len N L k
    have HE : Hid (k = L.length → armUpTo N L k = armUpTo N L L.length) := fun e => by rw [e]
    have hxl := hO.len
    generalize armUpTo N L k = P at *
    have hkt := kT.lt
    by_cases hlt : k < L.length
    · obtain ⟨b, off, rfl, hbs, hcell⟩ := (hL.ints rfl (by unfold Room; omega)).at_ (by omega)
      have hc1 := hcell k hlt
      clear hcell
      generalize nth L k = x at *
      by_cases hx : x = 2 ^ N - 1
      · have hxd : (x == 2 ^ N - 1) = true := by simp [hx]
        have hxn : (x != 2 ^ N - 1) = false := by simp [hx]
        go_wp2_with fail
        go_roundw
        case rel => exact ⟨k + 1, by go_num, by omega, HSame.out hxd⟩
        case measure => simp [intOf]; omega
      · have hxd : (x == 2 ^ N - 1) = false := by simp [hx]
        have hxn : (x != 2 ^ N - 1) = true := by simp [hx]
        have q1 := kT.cell 1 (.slice o P.length c) rfl
        have q1d := kT.drew.cell 1 (.slice o P.length c) rfl
        have hk64 : IntKind.i64.wrap ((k : Int) + 1) = (k : Int) + 1 := by unfold IntKind.wrap; simp [IntKind.bits, IntKind.signed]; omega
        go_wp2_with fail
        go_region_law (first
          | ((try go_simp); refine (c_rowFor N hN x ((k : Int) + 1) _).mono ?_; rintro e w5 ⟨o5, c5, rfl, hI5, hbn⟩; have h45 := bel_to (w := wr) (by first | exact (Below.refl _ _).drew | exact Below.refl _ _) hbn; have kT5 := kT.keep h45; have hO5 := hO.keep h45; have q5 := kT5.cell 1 (.slice o P.length c) rfl; have q5b := fun cs T => (kT5.alloc (.cells cs T)).cell 1 (.slice o P.length c) rfl)
          | (refine step_append_held _ (by rfl) _ _ 24 (by rfl) (w.heap.size + 1) 68 j0 (.slice none 0 0) 1 24 Try.underlying24 hj hy0 hy1 hy2 rfl (by decide) (.slice o P.length c) _ _ (by rfl) (World.ownsRow.alloc hO5.outer _) _ 1 1 [.slice o5 N c5] (by rfl) rfl (World.news_of_block (cs := #[.slice o5 N c5]) (t := 68) (fr := (0, 0)) (heap_alloc_new _ _)) (by intro u hu; simp at hu; subst hu; rfl) (by unfold maxLen; omega) (by omega) (by have := h45.size; simp; omega) ?_; intro v7 w7 hown _ hgrow hfr; obtain ⟨⟨o7, c7, rfl⟩, s7, t7, kT7, hO7, av7, hb7, hoth, hblk⟩ := tab_snoc (w := w) (rowFor_len N x ((k : Int) + 1)) hO5 (hI5.based (show w.heap.size + 1 ≤ _ by simp; omega)) (OwnRows.fresh (w := wr) hO hI5) kT5 av (fun e => by have := (World.ownsRow.lt hI5 _ e).1; simp at this; omega) (bel_to hb h45) (Nat.le_succ _) (show w.heap.size ≤ k6 by omega) hown hgrow hfr; clear hown hgrow hfr)
          | fail)
        all_goals
          obtain ⟨hL7, apL7⟩ := hoth _ _ _ _ _ _ (hL.keep h45) apL avL
          have kZ7 := hblk _ _ _ (kZ.keep h45) (show w.heap.size ≠ k6 by omega) (fun e => by have := (World.ownsRow.lt hO.outer _ e).1; omega)
          have HR7 := (show Hid _ from ArmI.next (show armUpTo N L (k + 1) = P ++ [rowForF N x ((k : Int) + 1)] by rw [HS.out, hxd]; rfl) kT7 hO7 av7 hL7 apL7 kZ7 hb7)
          clear hL7 apL7 kZ7 kT7 hO7 av7 hoth hblk hb7
          go_wp2
          go_roundw
          case rel => exact ⟨k + 1, by go_num, by omega, HR7.out⟩
          case measure => simp [intOf]; omega
    · have hkk : k = L.length := by omega
      have HP := (show Hid _ from HE.out hkk)
      have r0 := kT.cell 0 (.int .i64 N) rfl
      have r1 := kT.cell 1 (.slice o P.length c) rfl
      have z0 := kZ.cell 0 (.int .i64 0) rfl
      have z1 := kZ.cell 1 (.slice none 0 0) rfl
      have f0 := kZ.free 0
      have f1 := kZ.free 1
      have k2 : Blk _ w.heap.size #[.int .i64 N, .slice o P.length c] 26 := (kZ.set 0 (.int .i64 N)).set 1 (.slice o P.length c)
      have q0 := k2.cell 0 (.int .i64 N) rfl
      have q1 := k2.cell 1 (.slice o P.length c) rfl
      clear hkk
      go_wp2
      refine bodyPost_ret (v := .tuple #[.agg #[.int .i64 N, .slice o P.length c], .bool true]) (by simp only [results, Try.results13]; simp [go_sem, q0, q1]) rfl ?_
      rw [HA.out, ← HP.out]
      exact ⟨o, c, xs, rfl, ((hO.far_set 0 (.int .i64 N) (Nat.lt_succ_self _)).far_set 1 (.slice o P.length c) (Nat.lt_succ_self _)).based (Nat.le_succ _), bel_set2 hb (Nat.le_refl _) _ _⟩
end Go.Proofs.Ytjbmpnbfiahdhaa
