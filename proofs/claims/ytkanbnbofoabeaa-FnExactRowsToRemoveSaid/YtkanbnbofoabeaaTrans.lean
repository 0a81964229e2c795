/- Transversals, plainly: the minimal sets that hit every edge are what growing edge by edge leaves. No walk in sight. -/
import Derived.Test.YtkanbnbofoabeaaGrow
namespace Go.Proofs.Ytkanbnbofoabeaa
open Go.RowKit
set_option linter.unusedVariables false
set_option maxRecDepth 100000

def minP (p : Int → Bool) (x : Int) : Bool := (List.range 32).all fun (y : Nat) => !(p y && ins y x) || ((y : Int) == x)
def minL (p : Int → Bool) : List Int := flt (fun x => p x && minP p x) 32
theorem minP_iff {p : Int → Bool} {x : Int} : minP p x = true ↔ ∀ y, St y → p y = true → ins y x = true → y = x := by
  unfold minP
  rw [List.all_eq_true]
  constructor
  · intro h y hy hp hi
    obtain ⟨n, hn, rfl⟩ := st_nat hy
    have := h n (List.mem_range.2 hn)
    rw [hp, hi] at this
    simpa using this
  · intro h n hn
    have hs : St (n : Int) := by have := List.mem_range.1 hn; unfold St; omega
    cases hp : p n
    · simp
    · cases hi : ins n x
      · simp
      · have := h n hs hp hi
        simp [this]
theorem minL_mem {p : Int → Bool} {x : Int} : x ∈ minL p ↔ St x ∧ p x = true ∧ ∀ y, St y → p y = true → ins y x = true → y = x := by
  unfold minL
  rw [flt_mem, Bool.and_eq_true, minP_iff]
  constructor
  · rintro ⟨h, h1, h2⟩; exact ⟨by unfold St; omega, h1, h2⟩
  · rintro ⟨h, h1, h2⟩; exact ⟨by unfold St at h; omega, h1, h2⟩
theorem exists_min {p : Int → Bool} : ∀ (k : Nat) (z : Int), card z ≤ k → St z → p z = true → ∃ x, x ∈ minL p ∧ ins x z = true
  | k, z, hk, hz, hp => by
    by_cases hm : minP p z = true
    · exact ⟨z, minL_mem.2 ⟨hz, hp, minP_iff.1 hm⟩, ins_refl hz⟩
    · have : ∃ y, St y ∧ p y = true ∧ ins y z = true ∧ y ≠ z := by
        refine Classical.byContradiction fun hn => hm (minP_iff.2 fun y hy h1 h2 => ?_)
        exact Classical.byContradiction fun hne => hn ⟨y, hy, h1, h2, hne⟩
      obtain ⟨y, hy, h1, h2, hne⟩ := this
      have hc := card_lt hy hz h2 hne
      match k, hk with
      | 0, hk => omega
      | k + 1, hk =>
        obtain ⟨x, hx, hxy⟩ := exists_min k y (by omega) hy h1
        exact ⟨x, hx, ins_trans (minL_mem.1 hx).1 hy hz hxy h2⟩
theorem minB_iff {G : List Int} {x : Int} : minB G x = true ↔ ∀ y ∈ G, ins y x = true → y = x := by
  unfold minB
  rw [List.all_eq_true]
  constructor
  · intro h y hy hi
    have := h y hy
    rw [hi] at this
    simp at this
    exact this.symm
  · intro h y hy
    cases hi : ins y x
    · simp
    · simp [h y hy hi]
/-- What lies in the family, and below all of it, has its minimal sets. -/
theorem minF_family {G : List Int} {p : Int → Bool} (hl : G.length ≤ 100) (h1 : ∀ x ∈ G, St x ∧ p x = true) (h2 : ∀ z, St z → p z = true → ∃ g ∈ G, ins g z = true) : minF G = minL p := by
  have hs : setsF G = true := List.all_eq_true.2 fun x hx => by simpa [stB] using (h1 x hx).1
  rw [minF_sets hs hl]
  refine up_ext (flt_up _ _) (flt_up _ _) fun x => ?_
  rw [flt_mem, minL_mem, Bool.and_eq_true, minB_iff]
  constructor
  · rintro ⟨_, hx, hm⟩
    have hx : x ∈ G := by simpa [inB'] using hx
    obtain ⟨sx, px⟩ := h1 x hx
    refine ⟨sx, px, fun y sy py hy => ?_⟩
    obtain ⟨g, hg, hgy⟩ := h2 y sy py
    have sg := (h1 g hg).1
    have e := hm g hg (ins_trans sg sy sx hgy hy)
    subst e
    exact ins_antisymm sy sx hy hgy
  · rintro ⟨sx, px, hm⟩
    obtain ⟨g, hg, hgx⟩ := h2 x sx px
    obtain ⟨sg, pg⟩ := h1 g hg
    have e := hm g sg pg hgx
    subst e
    exact ⟨by unfold St at sx; omega, by simpa [inB'] using hg, fun y hy hi => hm y (h1 y hy).1 (h1 y hy).2 hi⟩
theorem apart_iff {e x : Int} (he : St e) (hx : St x) : apart e x = false ↔ ∃ c, Co c ∧ hasc e c = true ∧ hasc x c = true := by
  obtain ⟨n, hn, rfl⟩ := st_nat he; obtain ⟨m, hm, rfl⟩ := st_nat hx
  have h : ∀ n < 32, ∀ m < 32, (apart ((n : Nat) : Int) ((m : Nat) : Int) = false ↔ ∃ c < 5, hasc (n : Nat) (c : Nat) = true ∧ hasc (m : Nat) (c : Nat) = true) := by decide +kernel
  rw [h n hn m hm]
  constructor
  · rintro ⟨c, hc, h⟩; exact ⟨c, by unfold Co; omega, h⟩
  · rintro ⟨c, hc, h⟩; obtain ⟨k, hk, rfl⟩ := co_nat hc; exact ⟨k, hk, h⟩
theorem apart_up {e x y : Int} (he : St e) (hx : St x) (hy : St y) (hi : ins x y = true) (h : apart e x = false) : apart e y = false := by
  obtain ⟨c, hc, h1, h2⟩ := (apart_iff he hx).1 h
  exact (apart_iff he hy).2 ⟨c, hc, h1, (ins_iff hx hy).1 hi c hc h2⟩
theorem apart_comm {e x : Int} (he : St e) (hx : St x) : apart e x = apart x e := by
  cases h : apart x e
  · obtain ⟨c, hc, h1, h2⟩ := (apart_iff hx he).1 h
    exact (apart_iff he hx).2 ⟨c, hc, h2, h1⟩
  · cases h' : apart e x
    · obtain ⟨c, hc, h1, h2⟩ := (apart_iff he hx).1 h'
      rw [(apart_iff hx he).2 ⟨c, hc, h2, h1⟩] at h; cases h
    · rfl
theorem members_mem {e c : Int} (he : St e) (hc : Co c) (h : hasc e c = true) : c ∈ membersF e := by
  unfold membersF
  rw [if_pos (by simpa [stB] using he)]
  obtain ⟨k, hk, rfl⟩ := co_nat hc
  unfold membersUpTo
  exact List.mem_filter.2 ⟨List.mem_map.2 ⟨k, List.mem_range.2 hk, rfl⟩, h⟩
def UpC (p : Int → Bool) : Prop := ∀ x y, St x → St y → ins x y = true → p x = true → p y = true
theorem growF_minL {p : Int → Bool} {e : Int} (he : St e) (hup : UpC p) : growF (minL p) e = minL (fun x => p x && !apart e x) := by
  have hmem : ∀ x ∈ minL p, St x := fun x hx => (minL_mem.1 hx).1
  have hlen : (minL p).length ≤ 32 := flt_le _ _
  have hok : growOk (minL p) e = true := by
    unfold growOk
    have h1 : setsF (minL p) = true := List.all_eq_true.2 fun x hx => by simpa [stB] using hmem x hx
    have h2 : stB e = true := by simpa [stB] using he
    rw [h1, h2]; simp; omega
  unfold growF
  rw [if_pos hok]
  have hg := grown_st (e := e) hmem
  have hdm : ∀ y, y ∈ distinctF (grownF (minL p) e) ↔ y ∈ grownF (minL p) e := (distinctF_up _).2
  refine minF_family ?_ ?_ ?_
  · rw [distinctF_flt hg]; exact Nat.le_trans (flt_le _ _) (by omega)
  · intro y hy
    rw [hdm] at hy
    refine ⟨hg y hy, ?_⟩
    obtain ⟨x, hx, hy'⟩ := List.mem_flatMap.1 hy
    obtain ⟨sx, px, _⟩ := minL_mem.1 hx
    unfold growOne at hy'
    split at hy'
    · obtain ⟨c, hc, rfl⟩ := List.mem_map.1 hy'
      obtain ⟨cc, ch⟩ := members_co c hc
      have su := uni_st sx (one_st cc)
      have h1 := hup x _ sx su (ins_uni_left sx (one_st cc)) px
      have h2 : apart e (uni x (one c)) = false := (apart_iff he su).2 ⟨c, cc, ch, by rw [hasc_uni sx (one_st cc) cc, hasc_one cc cc]; simp⟩
      rw [h1, h2]; rfl
    · next hna =>
      simp at hy'
      subst hy'
      have h2 : apart e y = false := by rw [apart_comm he sx]; simpa using hna
      rw [px, h2]; rfl
  · intro z sz pz
    have hpz : p z = true ∧ apart e z = false := by simpa using pz
    obtain ⟨x, hx, hxz⟩ := exists_min (p := p) (card z) z (Nat.le_refl _) sz hpz.1
    have sx := hmem x hx
    cases ha : apart x e
    · exact ⟨x, (hdm x).2 (List.mem_flatMap.2 ⟨x, hx, by unfold growOne; rw [ha]; simp⟩), hxz⟩
    · obtain ⟨c, cc, h1, h2⟩ := (apart_iff he sz).1 hpz.2
      refine ⟨uni x (one c), (hdm _).2 (List.mem_flatMap.2 ⟨x, hx, ?_⟩), uni_ins sx (one_st cc) sz hxz (one_ins cc sz h2)⟩
      unfold growOne
      rw [ha]
      exact List.mem_map.2 ⟨c, members_mem he cc h1, rfl⟩
theorem hitsF_up {L : List Int} (h : ∀ e ∈ L, St e) : UpC (hitsF L) := by
  intro x y sx sy hi hx
  unfold hitsF at hx ⊢
  rw [List.all_eq_true] at hx ⊢
  intro e he
  have := hx e he
  have h2 := apart_up (h e he) sx sy hi (by simpa using this)
  rw [h2]; rfl
theorem hits_snoc (L : List Int) (e : Int) : hitsF (L ++ [e]) = fun x => hitsF L x && !apart e x := by
  funext x
  unfold hitsF
  rw [List.all_append]
  simp
theorem minL_all : minL (hitsF []) = [0] := by decide +kernel
theorem grow_fold {L : List Int} (h : ∀ e ∈ L, St e) (k : Nat) (hk : k ≤ L.length) : (L.take k).foldl growF [0] = minL (hitsF (L.take k)) := by
  induction k with
  | zero => rw [List.take_zero, minL_all]; rfl
  | succ k ih =>
    have hlt : k < L.length := by omega
    have e1 : L.take (k + 1) = L.take k ++ [nth L k] := by rw [List.take_add_one, nth_eq hlt]; rfl
    rw [e1, List.foldl_append, ih (by omega), hits_snoc]
    exact growF_minL (h _ (List.mem_iff_getElem?.2 ⟨k, nth_eq hlt⟩)) (hitsF_up fun e he => h e (List.mem_of_mem_take he))
theorem low_nat : ∀ m < 6, ∀ q < 32, ∀ d < 32, (decide (((d : Nat) : Int) < 2 ^ ((m : Nat) : Int).toNat) && !apart ((d : Nat) : Int) ((q : Nat) : Int) && apart ((d : Nat) : Int) (cap ((q : Nat) : Int) (2 ^ ((m : Nat) : Int).toNat - 1))) = false := by decide +kernel
theorem low_part {n : Int} (h0 : 0 ≤ n) (h5 : n ≤ 5) {e z : Int} (sz : St z) (he1 : 0 ≤ e) (he2 : e < 2 ^ n.toNat) (ha : apart e z = false) : apart e (cap z (2 ^ n.toNat - 1)) = false := by
  obtain ⟨m, rfl⟩ := Int.eq_ofNat_of_zero_le h0
  obtain ⟨q, hq, rfl⟩ := st_nat sz
  obtain ⟨d, rfl⟩ := Int.eq_ofNat_of_zero_le he1
  have hm : m < 6 := by omega
  have h32 : ∀ m < 6, (2 : Int) ^ ((m : Nat) : Int).toNat ≤ 32 := by decide
  have hd : d < 32 := by have := h32 m hm; omega
  have h := low_nat m hm q hq d hd
  rw [ha, decide_eq_true he2] at h
  simpa using h
theorem low_ins {n : Int} (h0 : 0 ≤ n) (h5 : n ≤ 5) {z : Int} (sz : St z) : 0 ≤ cap z (2 ^ n.toNat - 1) ∧ cap z (2 ^ n.toNat - 1) < 2 ^ n.toNat ∧ ins (cap z (2 ^ n.toNat - 1)) z = true := by
  obtain ⟨m, rfl⟩ := Int.eq_ofNat_of_zero_le h0
  obtain ⟨q, hq, rfl⟩ := st_nat sz
  have h : ∀ m < 6, ∀ q < 32, (0 ≤ cap ((q : Nat) : Int) (2 ^ ((m : Nat) : Int).toNat - 1) ∧ cap ((q : Nat) : Int) (2 ^ ((m : Nat) : Int).toNat - 1) < 2 ^ ((m : Nat) : Int).toNat ∧ ins (cap ((q : Nat) : Int) (2 ^ ((m : Nat) : Int).toNat - 1)) ((q : Nat) : Int) = true) := by decide +kernel
  exact h m (by omega) q hq
def transOk (L : List Int) (n : Int) : Bool := decide (0 ≤ n) && decide (n ≤ 5) && decide (L.length ≤ 100) && L.all (isAttr n)
def transF (L : List Int) (n : Int) : List Int := if transOk L n then minF (flt (hitsF L) (2 ^ n.toNat)) else []
theorem trans_edges {L : List Int} {n : Int} (h : transOk L n = true) : 0 ≤ n ∧ n ≤ 5 ∧ L.length ≤ 100 ∧ ∀ e ∈ L, 0 ≤ e ∧ e < 2 ^ n.toNat := by
  unfold transOk at h
  simp only [Bool.and_eq_true, decide_eq_true_eq] at h
  refine ⟨h.1.1.1, h.1.1.2, h.1.2, fun e he => ?_⟩
  have := List.all_eq_true.1 h.2 e he
  unfold isAttr at this
  simp only [Bool.and_eq_true, decide_eq_true_eq] at this
  exact ⟨this.1.2, this.2⟩
theorem trans_st {L : List Int} {n : Int} (h : transOk L n = true) : ∀ e ∈ L, St e := by
  obtain ⟨h0, h5, _, he⟩ := trans_edges h
  intro e hm
  have := he e hm
  have h2 := (pow_wrap h0 h5).2.1
  exact ⟨this.1, by omega⟩
theorem transF_fold {L : List Int} {n : Int} (h : transOk L n = true) : transF L n = L.foldl growF [0] := by
  obtain ⟨h0, h5, hl, he⟩ := trans_edges h
  have hst := trans_st h
  have hp := pow_nat h0 h5
  have hf := grow_fold hst L.length (Nat.le_refl _)
  rw [List.take_length] at hf
  rw [hf]
  unfold transF
  rw [if_pos h]
  have hlen := flt_le (hitsF L) (2 ^ n.toNat)
  refine minF_family (by omega) (fun x hx => ?_) (fun z sz hz => ?_)
  · obtain ⟨⟨a, b⟩, c⟩ := flt_mem.1 hx
    exact ⟨⟨a, by have := hp.2.1; omega⟩, c⟩
  · obtain ⟨a, b, c⟩ := low_ins h0 h5 sz
    refine ⟨cap z (2 ^ n.toNat - 1), flt_mem.2 ⟨⟨a, by rw [hp.1]; exact b⟩, ?_⟩, c⟩
    unfold hitsF at hz ⊢
    rw [List.all_eq_true] at hz ⊢
    intro e hm
    have h1 := hz e hm
    rw [low_part h0 h5 sz (he e hm).1 (he e hm).2 (by simpa using h1)]; rfl
theorem transF_len (L : List Int) (n : Int) : (transF L n).length ≤ Room := by
  unfold transF
  split
  · have := minF_len (flt (hitsF L) (2 ^ n.toNat)); unfold Room; omega
  · simp
end Go.Proofs.Ytkanbnbofoabeaa
