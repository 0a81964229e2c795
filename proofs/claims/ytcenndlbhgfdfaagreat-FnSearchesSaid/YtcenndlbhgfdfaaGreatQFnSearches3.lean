/- Contracts and lemmas for FnSearches, part 3 of 8. -/
import Derived.Test.YtcenndlbhgfdfaaGreatQFnSearches1
import Derived.Test.YtcenndlbhgfdfaaGreatQFnSearches2
import Derived.Deep.RegionHeld3
import Derived.Deep.RegionLaw
import Derived.IntWalk
import Derived.Deep.AppendLies
namespace Go.Proofs.YtcenndlbhgfdfaaGreat
open Go.RowKit
set_option linter.unusedVariables false
set_option maxRecDepth 100000

def minP (p : Int → Bool) (x : Int) : Bool := (List.range 32).all fun (y : Nat) => !(p y && ins y x) || ((y : Int) == x)
def minL (p : Int → Bool) : List Int := flt (fun x => p x && minP p x) 32
theorem minP_iff {p : Int → Bool} {x : Int} : minP p x = true ↔ ∀ y, St y → p y = true → ins y x = true → y = x := by
  unfold minP
  rw [List.all_eq_true]
  constructor
  · intro h y hy hp hi
    obtain ⟨n, hn, rfl⟩ := st_nat hy
    have := h n (List.mem_range.2 hn)
    rw [hp, hi] at this
    simpa using this
  · intro h n hn
    have hs : St (n : Int) := by have := List.mem_range.1 hn; unfold St; omega
    cases hp : p n
    · simp
    · cases hi : ins n x
      · simp
      · have := h n hs hp hi
        simp [this]
theorem minL_mem {p : Int → Bool} {x : Int} : x ∈ minL p ↔ St x ∧ p x = true ∧ ∀ y, St y → p y = true → ins y x = true → y = x := by
  unfold minL
  rw [flt_mem, Bool.and_eq_true, minP_iff]
  constructor
  · rintro ⟨h, h1, h2⟩; exact ⟨by unfold St; omega, h1, h2⟩
  · rintro ⟨h, h1, h2⟩; exact ⟨by unfold St at h; omega, h1, h2⟩
theorem exists_min {p : Int → Bool} : ∀ (k : Nat) (z : Int), card z ≤ k → St z → p z = true → ∃ x, x ∈ minL p ∧ ins x z = true
  | k, z, hk, hz, hp => by
    by_cases hm : minP p z = true
    · exact ⟨z, minL_mem.2 ⟨hz, hp, minP_iff.1 hm⟩, ins_refl hz⟩
    · have : ∃ y, St y ∧ p y = true ∧ ins y z = true ∧ y ≠ z := by
        refine Classical.byContradiction fun hn => hm (minP_iff.2 fun y hy h1 h2 => ?_)
        exact Classical.byContradiction fun hne => hn ⟨y, hy, h1, h2, hne⟩
      obtain ⟨y, hy, h1, h2, hne⟩ := this
      have hc := card_lt hy hz h2 hne
      match k, hk with
      | 0, hk => omega
      | k + 1, hk =>
        obtain ⟨x, hx, hxy⟩ := exists_min k y (by omega) hy h1
        exact ⟨x, hx, ins_trans (minL_mem.1 hx).1 hy hz hxy h2⟩
theorem minB_iff {G : List Int} {x : Int} : minB G x = true ↔ ∀ y ∈ G, ins y x = true → y = x := by
  unfold minB
  rw [List.all_eq_true]
  constructor
  · intro h y hy hi
    have := h y hy
    rw [hi] at this
    simp at this
    exact this.symm
  · intro h y hy
    cases hi : ins y x
    · simp
    · simp [h y hy hi]
/-- What lies in the family, and below all of it, has its minimal sets. -/
theorem minF_family {G : List Int} {p : Int → Bool} (hl : G.length ≤ 100) (h1 : ∀ x ∈ G, St x ∧ p x = true) (h2 : ∀ z, St z → p z = true → ∃ g ∈ G, ins g z = true) : minF G = minL p := by
  have hs : setsF G = true := List.all_eq_true.2 fun x hx => by simpa [stB] using (h1 x hx).1
  rw [minF_sets hs hl]
  refine up_ext (flt_up _ _) (flt_up _ _) fun x => ?_
  rw [flt_mem, minL_mem, Bool.and_eq_true, minB_iff]
  constructor
  · rintro ⟨_, hx, hm⟩
    have hx : x ∈ G := by simpa [inB'] using hx
    obtain ⟨sx, px⟩ := h1 x hx
    refine ⟨sx, px, fun y sy py hy => ?_⟩
    obtain ⟨g, hg, hgy⟩ := h2 y sy py
    have sg := (h1 g hg).1
    have e := hm g hg (ins_trans sg sy sx hgy hy)
    subst e
    exact ins_antisymm sy sx hy hgy
  · rintro ⟨sx, px, hm⟩
    obtain ⟨g, hg, hgx⟩ := h2 x sx px
    obtain ⟨sg, pg⟩ := h1 g hg
    have e := hm g sg pg hgx
    subst e
    exact ⟨by unfold St at sx; omega, by simpa [inB'] using hg, fun y hy hi => hm y (h1 y hy).1 (h1 y hy).2 hi⟩
theorem apart_iff {e x : Int} (he : St e) (hx : St x) : apart e x = false ↔ ∃ c, Co c ∧ hasc e c = true ∧ hasc x c = true := by
  obtain ⟨n, hn, rfl⟩ := st_nat he; obtain ⟨m, hm, rfl⟩ := st_nat hx
  have h : ∀ n < 32, ∀ m < 32, (apart ((n : Nat) : Int) ((m : Nat) : Int) = false ↔ ∃ c < 5, hasc (n : Nat) (c : Nat) = true ∧ hasc (m : Nat) (c : Nat) = true) := by decide +kernel
  rw [h n hn m hm]
  constructor
  · rintro ⟨c, hc, h⟩; exact ⟨c, by unfold Co; omega, h⟩
  · rintro ⟨c, hc, h⟩; obtain ⟨k, hk, rfl⟩ := co_nat hc; exact ⟨k, hk, h⟩
theorem apart_up {e x y : Int} (he : St e) (hx : St x) (hy : St y) (hi : ins x y = true) (h : apart e x = false) : apart e y = false := by
  obtain ⟨c, hc, h1, h2⟩ := (apart_iff he hx).1 h
  exact (apart_iff he hy).2 ⟨c, hc, h1, (ins_iff hx hy).1 hi c hc h2⟩
theorem apart_comm {e x : Int} (he : St e) (hx : St x) : apart e x = apart x e := by
  cases h : apart x e
  · obtain ⟨c, hc, h1, h2⟩ := (apart_iff hx he).1 h
    exact (apart_iff he hx).2 ⟨c, hc, h2, h1⟩
  · cases h' : apart e x
    · obtain ⟨c, hc, h1, h2⟩ := (apart_iff he hx).1 h'
      rw [(apart_iff hx he).2 ⟨c, hc, h2, h1⟩] at h; cases h
    · rfl
theorem membersT_mem {e c : Int} (he : St e) (hc : Co c) (h : hasc e c = true) : c ∈ membersF e := by
  unfold membersF
  rw [if_pos (by simpa [stB] using he)]
  obtain ⟨k, hk, rfl⟩ := co_nat hc
  unfold membersUpTo
  exact List.mem_filter.2 ⟨List.mem_map.2 ⟨k, List.mem_range.2 hk, rfl⟩, h⟩
def UpC (p : Int → Bool) : Prop := ∀ x y, St x → St y → ins x y = true → p x = true → p y = true
theorem growF_minL {p : Int → Bool} {e : Int} (he : St e) (hup : UpC p) : growF (minL p) e = minL (fun x => p x && !apart e x) := by
  have hmem : ∀ x ∈ minL p, St x := fun x hx => (minL_mem.1 hx).1
  have hlen : (minL p).length ≤ 32 := flt_le _ _
  have hok : growOk (minL p) e = true := by
    unfold growOk
    have h1 : setsF (minL p) = true := List.all_eq_true.2 fun x hx => by simpa [stB] using hmem x hx
    have h2 : stB e = true := by simpa [stB] using he
    rw [h1, h2]; simp; omega
  unfold growF
  rw [if_pos hok]
  have hg := grown_st (e := e) hmem
  have hdm : ∀ y, y ∈ distinctF (grownF (minL p) e) ↔ y ∈ grownF (minL p) e := (distinctF_up _).2
  refine minF_family ?_ ?_ ?_
  · rw [distinctF_flt hg]; exact Nat.le_trans (flt_le _ _) (by omega)
  · intro y hy
    rw [hdm] at hy
    refine ⟨hg y hy, ?_⟩
    obtain ⟨x, hx, hy'⟩ := List.mem_flatMap.1 hy
    obtain ⟨sx, px, _⟩ := minL_mem.1 hx
    unfold growOne at hy'
    split at hy'
    · obtain ⟨c, hc, rfl⟩ := List.mem_map.1 hy'
      obtain ⟨cc, ch⟩ := members_co c hc
      have su := uni_st sx (one_st cc)
      have h1 := hup x _ sx su (ins_uni_left sx (one_st cc)) px
      have h2 : apart e (uni x (one c)) = false := (apart_iff he su).2 ⟨c, cc, ch, by rw [hasc_uni sx (one_st cc) cc, hasc_one cc cc]; simp⟩
      rw [h1, h2]; rfl
    · next hna =>
      simp at hy'
      subst hy'
      have h2 : apart e y = false := by rw [apart_comm he sx]; simpa using hna
      rw [px, h2]; rfl
  · intro z sz pz
    have hpz : p z = true ∧ apart e z = false := by simpa using pz
    obtain ⟨x, hx, hxz⟩ := exists_min (p := p) (card z) z (Nat.le_refl _) sz hpz.1
    have sx := hmem x hx
    cases ha : apart x e
    · exact ⟨x, (hdm x).2 (List.mem_flatMap.2 ⟨x, hx, by unfold growOne; rw [ha]; simp⟩), hxz⟩
    · obtain ⟨c, cc, h1, h2⟩ := (apart_iff he sz).1 hpz.2
      refine ⟨uni x (one c), (hdm _).2 (List.mem_flatMap.2 ⟨x, hx, ?_⟩), uni_ins sx (one_st cc) sz hxz (one_ins cc sz h2)⟩
      unfold growOne
      rw [ha]
      exact List.mem_map.2 ⟨c, membersT_mem he cc h1, rfl⟩
theorem hitsF_up {L : List Int} (h : ∀ e ∈ L, St e) : UpC (hitsF L) := by
  intro x y sx sy hi hx
  unfold hitsF at hx ⊢
  rw [List.all_eq_true] at hx ⊢
  intro e he
  have := hx e he
  have h2 := apart_up (h e he) sx sy hi (by simpa using this)
  rw [h2]; rfl
theorem hits_snoc (L : List Int) (e : Int) : hitsF (L ++ [e]) = fun x => hitsF L x && !apart e x := by
  funext x
  unfold hitsF
  rw [List.all_append]
  simp
theorem minL_all : minL (hitsF []) = [0] := by decide +kernel
theorem grow_fold {L : List Int} (h : ∀ e ∈ L, St e) (k : Nat) (hk : k ≤ L.length) : (L.take k).foldl growF [0] = minL (hitsF (L.take k)) := by
  induction k with
  | zero => rw [List.take_zero, minL_all]; rfl
  | succ k ih =>
    have hlt : k < L.length := by omega
    have e1 : L.take (k + 1) = L.take k ++ [nth L k] := by rw [List.take_add_one, nth_eq hlt]; rfl
    rw [e1, List.foldl_append, ih (by omega), hits_snoc]
    exact growF_minL (h _ (List.mem_iff_getElem?.2 ⟨k, nth_eq hlt⟩)) (hitsF_up fun e he => h e (List.mem_of_mem_take he))
theorem low_nat : ∀ m < 6, ∀ q < 32, ∀ d < 32, (decide (((d : Nat) : Int) < 2 ^ ((m : Nat) : Int).toNat) && !apart ((d : Nat) : Int) ((q : Nat) : Int) && apart ((d : Nat) : Int) (cap ((q : Nat) : Int) (2 ^ ((m : Nat) : Int).toNat - 1))) = false := by decide +kernel
theorem low_part {n : Int} (h0 : 0 ≤ n) (h5 : n ≤ 5) {e z : Int} (sz : St z) (he1 : 0 ≤ e) (he2 : e < 2 ^ n.toNat) (ha : apart e z = false) : apart e (cap z (2 ^ n.toNat - 1)) = false := by
  obtain ⟨m, rfl⟩ := Int.eq_ofNat_of_zero_le h0
  obtain ⟨q, hq, rfl⟩ := st_nat sz
  obtain ⟨d, rfl⟩ := Int.eq_ofNat_of_zero_le he1
  have hm : m < 6 := by omega
  have h32 : ∀ m < 6, (2 : Int) ^ ((m : Nat) : Int).toNat ≤ 32 := by decide
  have hd : d < 32 := by have := h32 m hm; omega
  have h := low_nat m hm q hq d hd
  rw [ha, decide_eq_true he2] at h
  simpa using h
theorem low_ins {n : Int} (h0 : 0 ≤ n) (h5 : n ≤ 5) {z : Int} (sz : St z) : 0 ≤ cap z (2 ^ n.toNat - 1) ∧ cap z (2 ^ n.toNat - 1) < 2 ^ n.toNat ∧ ins (cap z (2 ^ n.toNat - 1)) z = true := by
  obtain ⟨m, rfl⟩ := Int.eq_ofNat_of_zero_le h0
  obtain ⟨q, hq, rfl⟩ := st_nat sz
  have h : ∀ m < 6, ∀ q < 32, (0 ≤ cap ((q : Nat) : Int) (2 ^ ((m : Nat) : Int).toNat - 1) ∧ cap ((q : Nat) : Int) (2 ^ ((m : Nat) : Int).toNat - 1) < 2 ^ ((m : Nat) : Int).toNat ∧ ins (cap ((q : Nat) : Int) (2 ^ ((m : Nat) : Int).toNat - 1)) ((q : Nat) : Int) = true) := by decide +kernel
  exact h m (by omega) q hq
def transOk (L : List Int) (n : Int) : Bool := decide (0 ≤ n) && decide (n ≤ 5) && decide (L.length ≤ 100) && L.all (isAttr n)
def transF (L : List Int) (n : Int) : List Int := if transOk L n then minF (flt (hitsF L) (2 ^ n.toNat)) else []
theorem trans_edges {L : List Int} {n : Int} (h : transOk L n = true) : 0 ≤ n ∧ n ≤ 5 ∧ L.length ≤ 100 ∧ ∀ e ∈ L, 0 ≤ e ∧ e < 2 ^ n.toNat := by
  unfold transOk at h
  simp only [Bool.and_eq_true, decide_eq_true_eq] at h
  refine ⟨h.1.1.1, h.1.1.2, h.1.2, fun e he => ?_⟩
  have := List.all_eq_true.1 h.2 e he
  unfold isAttr at this
  simp only [Bool.and_eq_true, decide_eq_true_eq] at this
  exact ⟨this.1.2, this.2⟩
theorem trans_st {L : List Int} {n : Int} (h : transOk L n = true) : ∀ e ∈ L, St e := by
  obtain ⟨h0, h5, _, he⟩ := trans_edges h
  intro e hm
  have := he e hm
  have h2 := (pow_wrap h0 h5).2.1
  exact ⟨this.1, by omega⟩
theorem transF_fold {L : List Int} {n : Int} (h : transOk L n = true) : transF L n = L.foldl growF [0] := by
  obtain ⟨h0, h5, hl, he⟩ := trans_edges h
  have hst := trans_st h
  have hp := pow_nat h0 h5
  have hf := grow_fold hst L.length (Nat.le_refl _)
  rw [List.take_length] at hf
  rw [hf]
  unfold transF
  rw [if_pos h]
  have hlen := flt_le (hitsF L) (2 ^ n.toNat)
  refine minF_family (by omega) (fun x hx => ?_) (fun z sz hz => ?_)
  · obtain ⟨⟨a, b⟩, c⟩ := flt_mem.1 hx
    exact ⟨⟨a, by have := hp.2.1; omega⟩, c⟩
  · obtain ⟨a, b, c⟩ := low_ins h0 h5 sz
    refine ⟨cap z (2 ^ n.toNat - 1), flt_mem.2 ⟨⟨a, by rw [hp.1]; exact b⟩, ?_⟩, c⟩
    unfold hitsF at hz ⊢
    rw [List.all_eq_true] at hz ⊢
    intro e hm
    have h1 := hz e hm
    rw [low_part h0 h5 sz (he e hm).1 (he e hm).2 (by simpa using h1)]; rfl
theorem transF_len (L : List Int) (n : Int) : (transF L n).length ≤ Room := by
  unfold transF
  split
  · have := minF_len (flt (hitsF L) (2 ^ n.toNat)); unfold Room; omega
  · simp
end Go.Proofs.YtcenndlbhgfdfaaGreat
namespace Go.Proofs.YtcenndlbhgfdfaaGreat
open Go.RowKit
set_option linter.unusedVariables false
set_option maxRecDepth 100000

theorem and_swap {x l : Int} (hx : St x) (hl : St l) : (bits BinOp.and .i64 x l == l) = ins l x := by
  obtain ⟨n, hn, rfl⟩ := st_nat hx; obtain ⟨m, hm, rfl⟩ := st_nat hl
  have h : ∀ n < 32, ∀ m < 32, (bits BinOp.and .i64 ((n : Nat) : Int) ((m : Nat) : Int) == ((m : Nat) : Int)) = ins (m : Nat) (n : Nat) := by decide +kernel
  exact h n hn m hm
set_option maxHeartbeats 1600000 in
theorem c_l6Pair (n : Int) (oa) (cap : Nat) (R : List (List Int)) (m l r : Int) (w : World) (hR : RowsAt w oa R) (ht : isTabF n R = true) (hsl : St l) (hcr : Co r) :
    Calls Tryz.prog 103 #[.agg #[.int .i64 n, .slice oa R.length cap], .int .i64 m, .agg #[.int .i64 l, .int .i64 r]] w fun e w' => (∃ x y : Int, e = .returned (.tuple #[.int .i64 x, .int .i64 y]) ∧ decide (x < 0) = holdsF R m l r) ∧ Below w.heap.size w w' := by
  have hb := bel2 w (.cells #[.int .i64 n, .slice oa R.length cap] 26) (.cells #[.int .i64 l, .int .i64 r] 38)
  have a0 := two_a w #[.int .i64 n, .slice oa R.length cap] 26 #[.int .i64 l, .int .i64 r] 38 0 _ rfl
  have a1 := two_a w #[.int .i64 n, .slice oa R.length cap] 26 #[.int .i64 l, .int .i64 r] 38 1 _ rfl
  have d0 := two_b w #[.int .i64 n, .slice oa R.length cap] 26 #[.int .i64 l, .int .i64 r] 38 0 _ rfl
  have d1 := two_b w #[.int .i64 n, .slice oa R.length cap] 26 #[.int .i64 l, .int .i64 r] 38 1 _ rfl
  obtain ⟨hn1, hn5, hr40, hlen⟩ := isTab_of ht
  have hr1 := hcr.1
  have hr2 := hcr.2
  have HT : Hid (isTabF n R = true) := ht
  have HL : Hid (∀ k, k < R.length → ((row R k).length : Int) = n) := hlen
  have HH : Hid ((∀ i, i < R.length → ∀ k, k < R.length → i < k → violF R m l r i k = false) → holdsF R m l r = true) := fun h => decide_eq_true h
  have HN : Hid (∀ i k, i < k → k < R.length → violF R m l r i k = true → holdsF R m l r = false) := fun i k h1 h2 h3 => holdsF_no h1 h2 h3
  have HSL : Hid (St l ∧ Co r) := ⟨hsl, hcr⟩
  clear ht hlen hcr hsl
  go_enter Tryz.func103, Tryz.ntmps103
  go_wp2
  go_loopw [8] (fun i wr => ∃ k : Nat, i = .int .i64 k ∧ k ≤ R.length ∧ (∀ i, i < k → ∀ k, k < R.length → i < k → violF R m l r i k = false) ∧ wr.cell? ⟨w.heap.size, 0, none⟩ = some (.int .i64 n) ∧ wr.cell? ⟨w.heap.size, 1, none⟩ = some (.slice oa R.length cap) ∧ wr.cell? ⟨w.heap.size + 1, 0, none⟩ = some (.int .i64 l) ∧ wr.cell? ⟨w.heap.size + 1, 1, none⟩ = some (.int .i64 r) ∧ Below w.heap.size w wr) (fun i _ => R.length - (intOf i).toNat)
  case atStart => exact ⟨0, rfl, Nat.zero_le _, fun i hi => absurd hi (by omega), a0, a1, d0, d1, hb⟩
  case round =>
    clear a0 a1 d0 d1 hb
    obtain ⟨i, rfl, hi, hall, a0, a1, d0, d1, hb⟩ := hrel
    have HA : Hid (∀ i', i' < i → ∀ k, k < R.length → i' < k → violF R m l r i' k = false) := hall
    clear hall
    by_cases hlt : i < R.length
    · go_wp2
      go_loopw [9] (fun i' wr => ∃ k : Nat, i' = .int .i64 k ∧ i < k ∧ k ≤ R.length ∧ (∀ k', k' < k → i < k' → violF R m l r i k' = false) ∧ wr.cell? ⟨w.heap.size, 0, none⟩ = some (.int .i64 n) ∧ wr.cell? ⟨w.heap.size, 1, none⟩ = some (.slice oa R.length cap) ∧ wr.cell? ⟨w.heap.size + 1, 0, none⟩ = some (.int .i64 l) ∧ wr.cell? ⟨w.heap.size + 1, 1, none⟩ = some (.int .i64 r) ∧ Below w.heap.size w wr) (fun i _ => R.length - (intOf i).toNat)
      case atStart => exact ⟨i + 1, by go_num, by omega, by omega, fun k' h1 h2 => absurd h1 (by omega), a0, a1, d0, d1, hb⟩
      case round =>
        clear a0 a1 d0 d1 hb
        obtain ⟨k, rfl, hik, hk, hall, a0, a1, d0, d1, hb⟩ := hrel
        have HI : Hid (∀ k', k' < k → i < k' → violF R m l r i k' = false) := hall
        clear hall
        by_cases hlk : k < R.length
        · have HV : Hid (violF R m l r i k = (ins l (agreeF m (row R i) (row R k)) && !hasc (agreeF m (row R i) (row R k)) r)) := rfl
          have HS : Hid (St (agreeF m (row R i) (row R k))) := agreeF_st (by have := HL.out i hlt; omega)
          go_wp2_with fail
          refine Calls.mono (c_l4Agree n _ _ _ m i k _ (hR.keep hb) HT.out hlt hlk) ?_
          rintro e w1 ⟨rfl, hbn⟩
          replace a0 := cell_keep a0 hbn
          replace a1 := cell_keep a1 hbn
          replace d0 := cell_keep d0 hbn
          replace d1 := cell_keep d1 hbn
          replace hb := bel_to hb hbn
          clear hbn
          generalize agreeF m (row R i) (row R k) = x at *
          cases h1 : ins l x
          · have h1' : (bits BinOp.and .i64 x l == l) = false := (and_swap HS.out HSL.out.1).trans h1
            go_wp2
            go_roundw
            case rel => exact ⟨k + 1, by go_num, by omega, by omega, lt_step (p := fun k' => i < k' → violF R m l r i k' = false) HI.out (fun _ => by rw [HV.out, h1]; rfl), a0, a1, d0, d1, hb⟩
            case measure => simp [intOf]; omega
          · have h1' : (bits BinOp.and .i64 x l == l) = true := (and_swap HS.out HSL.out.1).trans h1
            cases h2 : hasc x r
            · have h2' : (bits BinOp.and .i64 (x / 2 ^ r.toNat) 1 == 0) = true := (hasn_eq HS.out HSL.out.2).trans (by rw [h2]; rfl)
              go_wp2
              go_ret2
              exact ⟨⟨_, _, rfl, by rw [HN.out i k hik hlk (by rw [HV.out, h1, h2]; rfl)]; simp⟩, hb⟩
            · have h2' : (bits BinOp.and .i64 (x / 2 ^ r.toNat) 1 == 0) = false := (hasn_eq HS.out HSL.out.2).trans (by rw [h2]; rfl)
              go_wp2
              go_roundw
              case rel => exact ⟨k + 1, by go_num, by omega, by omega, lt_step (p := fun k' => i < k' → violF R m l r i k' = false) HI.out (fun _ => by rw [HV.out, h1, h2]; rfl), a0, a1, d0, d1, hb⟩
              case measure => simp [intOf]; omega
        · have HI2 : Hid (∀ k', k' < R.length → i < k' → violF R m l r i k' = false) := fun k' h1 h2 => HI.out k' (by omega) h2
          go_wp2
          go_roundw
          case rel => exact ⟨i + 1, by go_num, by omega, lt_step (p := fun i => ∀ k, k < R.length → i < k → violF R m l r i k = false) HA.out HI2.out, a0, a1, d0, d1, hb⟩
          case measure => simp [intOf]; omega
    · have HE : Hid (holdsF R m l r = true) := HH.out fun i' h1 => HA.out i' (by omega)
      go_wp2
      go_ret2
      exact ⟨⟨_, _, rfl, by rw [HE.out]; rfl⟩, hb⟩
theorem c_l7Holds (n : Int) (oa) (cap : Nat) (R : List (List Int)) (m l r : Int) (w : World) (hR : RowsAt w oa R) (ht : isTabF n R = true) (hsl : St l) (hcr : Co r) :
    Ans Tryz.prog 72 #[.agg #[.int .i64 n, .slice oa R.length cap], .int .i64 m, .agg #[.int .i64 l, .int .i64 r]] w (.bool (holdsF R m l r)) := by
  unfold Ans
  have hb := bel2 w (.cells #[.int .i64 n, .slice oa R.length cap] 26) (.cells #[.int .i64 l, .int .i64 r] 38)
  have hW := c_l6Pair n oa cap R m l r _ (hR.keep hb) ht hsl hcr
  go_enter Tryz.func72, Tryz.ntmps72
  go_wp2_with fail
  refine hW.mono ?_
  rintro e w1 ⟨⟨x, y, rfl, hx⟩, hbn⟩
  replace hb := bel_to hb hbn
  clear hbn
  go_wp2
  go_ret
  exact ⟨rfl, hb⟩
end Go.Proofs.YtcenndlbhgfdfaaGreat
namespace Go.Proofs.YtcenndlbhgfdfaaGreat
open Go.RowKit
set_option linter.unusedVariables false
set_option maxRecDepth 100000

def isMinF (n : Int) (R : List (List Int)) (m l r : Int) : Bool :=
  askF n R m l r && (holdsF R m l r && (!hasc l r && (membersF l).all fun c => !holdsF R m (dif l (one c)) r))
theorem dif_le {x c : Int} (hx : St x) (hc : Co c) : 0 ≤ dif x (one c) ∧ dif x (one c) ≤ x := by
  obtain ⟨n, hn, rfl⟩ := st_nat hx; obtain ⟨k, hk, rfl⟩ := co_nat hc
  have h : ∀ n < 32, ∀ k < 5, 0 ≤ dif ((n : Nat) : Int) (one ((k : Nat) : Int)) ∧ dif ((n : Nat) : Int) (one ((k : Nat) : Int)) ≤ ((n : Nat) : Int) := by decide +kernel
  exact h n hn k hk
theorem ask_less {n : Int} {R : List (List Int)} {m l r c : Int} (h : askF n R m l r = true) (hc : Co c) : askF n R m (dif l (one c)) r = true := by
  unfold askF at h ⊢
  simp only [Bool.and_eq_true] at h ⊢
  obtain ⟨⟨ht, hm⟩, hd⟩ := h
  obtain ⟨hl, hr⟩ := dep_of hd (isTab_of ht).2.1
  refine ⟨⟨ht, hm⟩, ?_⟩
  have h2 := dif_le hl hc
  unfold isDepF isAttr at hd ⊢
  simp only [Bool.and_eq_true, decide_eq_true_eq] at hd ⊢
  obtain ⟨⟨⟨a, ⟨⟨b, c'⟩, d⟩, e⟩, f⟩, g⟩ := hd
  exact ⟨⟨⟨a, ⟨⟨b, c'⟩, h2.1⟩, by omega⟩, f⟩, g⟩

set_option maxHeartbeats 800000 in
theorem c_IsMinimalDep (n : Int) (oa) (cap : Nat) (R : List (List Int)) (m l r : Int) (w : World) (hR : RowsAt w oa R) :
    Ans Tryz.prog 31 #[.agg #[.int .i64 n, .slice oa R.length cap], .int .i64 m, .agg #[.int .i64 l, .int .i64 r]] w (.bool (isMinF n R m l r)) := by
  unfold Ans
  have hb := bel2 w (.cells #[.int .i64 n, .slice oa R.length cap] 26) (.cells #[.int .i64 l, .int .i64 r] 38)
  have a0 := two_a w #[.int .i64 n, .slice oa R.length cap] 26 #[.int .i64 l, .int .i64 r] 38 0 _ rfl
  have a1 := two_a w #[.int .i64 n, .slice oa R.length cap] 26 #[.int .i64 l, .int .i64 r] 38 1 _ rfl
  have d0 := two_b w #[.int .i64 n, .slice oa R.length cap] 26 #[.int .i64 l, .int .i64 r] 38 0 _ rfl
  have d1 := two_b w #[.int .i64 n, .slice oa R.length cap] 26 #[.int .i64 l, .int .i64 r] 38 1 _ rfl
  cases hh : (askF n R m l r && holdsF R m l r)
  · have HM : Hid (isMinF n R m l r = false) := by show isMinF n R m l r = false; unfold isMinF; rw [← Bool.and_assoc, hh]; rfl
    go_enter Tryz.func31, Tryz.ntmps31
    go_wp2_with (first | (go_at_call 33; refine Calls.mono (Ans.eqb (c_HoldsDep _ _ _ _ _ _ _ _ (hR.keep hb)) hh) ?_; rintro e w1 ⟨rfl, hbn⟩; replace a0 := cell_keep a0 hbn; replace a1 := cell_keep a1 hbn; replace d0 := cell_keep d0 hbn; replace d1 := cell_keep d1 hbn; replace hb := bel_to (w := w) (by first | exact hb | exact hb.alloc hb.size _ | exact (hb.alloc hb.size _).alloc (Nat.le_trans hb.size (by simp)) _ | exact hb.setCell (by simp [hb.size]) _) hbn; clear hbn))
    go_ret
    exact ⟨ret_bool HM.out.symm, hb⟩
  have hh2 : askF n R m l r = true ∧ holdsF R m l r = true := by simpa using hh
  have hdep : St l ∧ Co r := by
    have h := hh2.1
    unfold askF at h
    simp only [Bool.and_eq_true] at h
    exact dep_of h.2 (isTab_of h.1.1).2.1
  have hr64 : 0 ≤ r ∧ r < 64 := ⟨hdep.2.1, by have := hdep.2.2; omega⟩
  have HK : Hid (∀ c, Co c → askF n R m (dif l (one c)) r = true) := fun c hc => ask_less hh2.1 hc
  have HD : Hid (St l ∧ Co r) := hdep
  clear hdep
  cases hlr : hasc l r
  case true =>
    have HM : Hid (isMinF n R m l r = false) := by show isMinF n R m l r = false; unfold isMinF; rw [hlr]; simp
    go_enter Tryz.func31, Tryz.ntmps31
    go_wp2_with (first | (go_at_call 33; refine Calls.mono (Ans.eqb (c_HoldsDep _ _ _ _ _ _ _ _ (hR.keep hb)) hh) ?_; rintro e w1 ⟨rfl, hbn⟩; replace a0 := cell_keep a0 hbn; replace a1 := cell_keep a1 hbn; replace d0 := cell_keep d0 hbn; replace d1 := cell_keep d1 hbn; replace hb := bel_to (w := w) (by first | exact hb | exact hb.alloc hb.size _ | exact (hb.alloc hb.size _).alloc (Nat.le_trans hb.size (by simp)) _ | exact hb.setCell (by simp [hb.size]) _) hbn; clear hbn) | (go_at_call 67; refine Calls.mono (Ans.eqb (c_has _ _ hr64 _) hlr) ?_; rintro e w1 ⟨rfl, hbn⟩; replace a0 := cell_keep a0 hbn; replace a1 := cell_keep a1 hbn; replace d0 := cell_keep d0 hbn; replace d1 := cell_keep d1 hbn; replace hb := bel_to (w := w) (by first | exact hb | exact hb.alloc hb.size _ | exact (hb.alloc hb.size _).alloc (Nat.le_trans hb.size (by simp)) _ | exact hb.setCell (by simp [hb.size]) _) hbn; clear hbn))
    go_ret
    exact ⟨ret_bool HM.out.symm, hb⟩
  have HM : Hid (isMinF n R m l r = (membersF l).all fun c => !holdsF R m (dif l (one c)) r) := by show isMinF n R m l r = _; unfold isMinF; rw [hh2.1, hh2.2, hlr]; rfl
  have HC : Hid (∀ c ∈ membersF l, Co c) := fun c hc => (members_co c hc).1
  have hml := members_len l
  clear hh2
  go_enter Tryz.func31, Tryz.ntmps31
  go_wp2_with (first | (go_at_call 33; refine Calls.mono (Ans.eqb (c_HoldsDep _ _ _ _ _ _ _ _ (hR.keep hb)) hh) ?_; rintro e w1 ⟨rfl, hbn⟩; replace a0 := cell_keep a0 hbn; replace a1 := cell_keep a1 hbn; replace d0 := cell_keep d0 hbn; replace d1 := cell_keep d1 hbn; replace hb := bel_to (w := w) (by first | exact hb | exact hb.alloc hb.size _ | exact (hb.alloc hb.size _).alloc (Nat.le_trans hb.size (by simp)) _ | exact hb.setCell (by simp [hb.size]) _) hbn; clear hbn) | (go_at_call 67; refine Calls.mono (Ans.eqb (c_has _ _ hr64 _) hlr) ?_; rintro e w1 ⟨rfl, hbn⟩; replace a0 := cell_keep a0 hbn; replace a1 := cell_keep a1 hbn; replace d0 := cell_keep d0 hbn; replace d1 := cell_keep d1 hbn; replace hb := bel_to (w := w) (by first | exact hb | exact hb.alloc hb.size _ | exact (hb.alloc hb.size _).alloc (Nat.le_trans hb.size (by simp)) _ | exact hb.setCell (by simp [hb.size]) _) hbn; clear hbn))
  refine (c_Members _ _).mono ?_
  rintro e w1 ⟨v1, rfl, hM, hbn⟩
  replace a0 := cell_keep a0 hbn
  replace a1 := cell_keep a1 hbn
  replace d0 := cell_keep d0 hbn
  replace d1 := cell_keep d1 hbn
  replace hb := bel_to hb hbn
  generalize membersF l = M at *
  obtain ⟨oM, cM, hvM, hcM⟩ := owns_cells hM
  subst hvM
  have hMl : M.length ≤ Room := by unfold Room; omega
  obtain ⟨oM', cM', hvM', hL⟩ := hM.reads hMl
  simp only [Value.slice.injEq] at hvM'
  obtain ⟨rfl, _, rfl⟩ := hvM'
  clear hbn hM hcM
  go_wp2
  go_loopw [25] (fun i wr => ∃ k : Nat, i = .int .i64 k ∧ k ≤ M.length ∧ (M.take k).all (fun c => !holdsF R m (dif l (one c)) r) = true ∧ IntsAt wr oM M ∧ wr.cell? ⟨w.heap.size, 0, none⟩ = some (.int .i64 n) ∧ wr.cell? ⟨w.heap.size, 1, none⟩ = some (.slice oa R.length cap) ∧ wr.cell? ⟨w.heap.size + 1, 0, none⟩ = some (.int .i64 l) ∧ wr.cell? ⟨w.heap.size + 1, 1, none⟩ = some (.int .i64 r) ∧ Below w.heap.size w wr) (fun i _ => M.length - (intOf i).toNat)
  case atStart => exact ⟨0, rfl, Nat.zero_le _, by simp, hL, a0, a1, d0, d1, hb⟩
  case round =>
    clear a0 a1 d0 d1 hb hL
    obtain ⟨k, rfl, hk, hall, hL, a0, a1, d0, d1, hb⟩ := hrel
    have HA : Hid ((M.take k).all (fun c => !holdsF R m (dif l (one c)) r) = true) := hall
    clear hall
    by_cases hlt : k < M.length
    · obtain ⟨b, off, rfl, hbs, hca⟩ := hL.at_ (by omega)
      have hc1 := hca k hlt
      have hco := HC.out _ (List.mem_iff_getElem?.2 ⟨k, nth_eq hlt⟩)
      have HT : Hid ((M.take (k + 1)).all (fun c => !holdsF R m (dif l (one c)) r) = ((M.take k).all (fun c => !holdsF R m (dif l (one c)) r) && !holdsF R m (dif l (one (nth M k))) r)) := all_take_succ (fun c => !holdsF R m (dif l (one c)) r) M k hlt
      have HF : Hid ((!holdsF R m (dif l (one (nth M k))) r) = false → M.all (fun c => !holdsF R m (dif l (one c)) r) = false) := all_false (fun c => !holdsF R m (dif l (one c)) r) M k hlt
      clear hca
      generalize nth M k = c at *
      have hco1 := hco.1
      have hco2 := hco.2
      have HKc : Hid (askF n R m (dif l (one c)) r = true) := HK.out c hco
      have hx := fun (x : After wr) => (hR.keep hb).keep x.bel
      clear hco
      cases hy : holdsF R m (dif l (one c)) r
      · go_wp2_with fail
        (refine wp_region_after (by kernel_rfl) (by kernel_rfl) ?_; have q_a0 := fun (x : After _) => cell_keep a0 x.bel; have q_a1 := fun (x : After _) => cell_keep a1 x.bel; have q_d0 := fun (x : After _) => cell_keep d0 x.bel; have q_d1 := fun (x : After _) => cell_keep d1 x.bel; have q_hc1 := fun (x : After _) => cell_keep hc1 x.bel; (repeat (go_big_quiet_step ((first | (go_at_call 33; exact Ans.after (Ans.eqb (b' := false) (c_HoldsDep n _ _ R m (dif l (one c)) r _ (hx _)) (by rw [HKc.out, hy]; rfl))))))); clear q_a0; clear q_a1; clear q_d0; clear q_d1; clear q_hc1; refine wpQuiet_nil ?_; rintro _ ⟨⟨w1, hbn⟩, rfl⟩; (try simp only [After.w]); replace a0 := cell_keep a0 hbn; replace a1 := cell_keep a1 hbn; replace d0 := cell_keep d0 hbn; replace d1 := cell_keep d1 hbn; replace hc1 := cell_keep hc1 hbn; replace hL := hL.keep hbn; replace hb := bel_to (w := w) (by first | exact hb | exact hb.alloc hb.size _ | exact (hb.alloc hb.size _).alloc (Nat.le_trans hb.size (by simp)) _ | exact hb.setCell (by simp [hb.size]) _) hbn; clear hbn)
        go_wp2
        go_roundw
        case rel => exact ⟨k + 1, by go_num, by omega, by rw [HT.out, HA.out, hy]; rfl, hL, a0, a1, d0, d1, hb⟩
        case measure => simp [intOf]; omega
      · go_wp2_with fail
        (refine wp_region_after (by kernel_rfl) (by kernel_rfl) ?_; have q_a0 := fun (x : After _) => cell_keep a0 x.bel; have q_a1 := fun (x : After _) => cell_keep a1 x.bel; have q_d0 := fun (x : After _) => cell_keep d0 x.bel; have q_d1 := fun (x : After _) => cell_keep d1 x.bel; have q_hc1 := fun (x : After _) => cell_keep hc1 x.bel; (repeat (go_big_quiet_step ((first | (go_at_call 33; exact Ans.after (Ans.eqb (b' := true) (c_HoldsDep n _ _ R m (dif l (one c)) r _ (hx _)) (by rw [HKc.out, hy]; rfl))))))); clear q_a0; clear q_a1; clear q_d0; clear q_d1; clear q_hc1; refine wpQuiet_nil ?_; rintro _ ⟨⟨w1, hbn⟩, rfl⟩; (try simp only [After.w]); replace a0 := cell_keep a0 hbn; replace a1 := cell_keep a1 hbn; replace d0 := cell_keep d0 hbn; replace d1 := cell_keep d1 hbn; replace hc1 := cell_keep hc1 hbn; replace hL := hL.keep hbn; replace hb := bel_to (w := w) (by first | exact hb | exact hb.alloc hb.size _ | exact (hb.alloc hb.size _).alloc (Nat.le_trans hb.size (by simp)) _ | exact hb.setCell (by simp [hb.size]) _) hbn; clear hbn)
        go_wp2
        go_ret
        exact ⟨ret_bool (by rw [HM.out, HF.out (by rw [hy]; rfl)]), hb⟩
    · have hkk : k = M.length := by omega
      have HS : Hid (M.all (fun c => !holdsF R m (dif l (one c)) r) = true) := by have := HA.out; rw [hkk, List.take_length] at this; exact this
      clear hkk
      go_wp2
      go_ret
      exact ⟨ret_bool (by rw [HM.out, HS.out]), hb⟩
end Go.Proofs.YtcenndlbhgfdfaaGreat
namespace Go.Proofs.YtcenndlbhgfdfaaGreat
open Go.RowKit
set_option linter.unusedVariables false
set_option maxRecDepth 100000

/-- what l7Minimal says -/
def l7F (n : Int) (R : List (List Int)) (m l r : Int) : Bool := !hasc l r && (holdsF R m l r && (membersUpTo l n.toNat).all fun c => !holdsF R m (dif l (one c)) r)
theorem members_below {n l : Int} (h0 : 0 ≤ n) (h5 : n ≤ 5) (hl : 0 ≤ l) (hn : l < 2 ^ n.toNat) : membersUpTo l n.toNat = membersF l := by
  obtain ⟨k, rfl⟩ := Int.eq_ofNat_of_zero_le h0
  obtain ⟨x, rfl⟩ := Int.eq_ofNat_of_zero_le hl
  have hk : k < 6 := by omega
  have h32 : ∀ m < 6, (2 : Int) ^ ((m : Nat) : Int).toNat ≤ 32 := by decide
  have hx : x < 32 := by have := h32 k hk; omega
  have h : ∀ k < 6, ∀ x < 32, ((x : Nat) : Int) < 2 ^ ((k : Nat) : Int).toNat → membersUpTo ((x : Nat) : Int) ((k : Nat) : Int).toNat = membersF ((x : Nat) : Int) := by decide +kernel
  exact h k hk x hx hn
theorem isMin_l7 {n : Int} {R : List (List Int)} {m l r : Int} (h : askF n R m l r = true) : isMinF n R m l r = l7F n R m l r := by
  have h' := h
  unfold askF at h'
  simp only [Bool.and_eq_true] at h'
  have h5 := (isTab_of h'.1.1).2.1
  have hd := h'.2
  unfold isDepF isAttr at hd
  simp only [Bool.and_eq_true, decide_eq_true_eq] at hd
  unfold isMinF l7F
  rw [h, members_below (by omega) h5 hd.1.1.2.1.2 hd.1.1.2.2]
  cases hasc l r <;> cases holdsF R m l r <;> rfl
set_option maxHeartbeats 1600000 in
theorem c_l7Minimal (n : Int) (oa) (cap : Nat) (R : List (List Int)) (m l r : Int) (w : World) (hR : RowsAt w oa R) (ht : isTabF n R = true) (hsl : St l) (hcr : Co r) :
    Ans Tryz.prog 57 #[.agg #[.int .i64 n, .slice oa R.length cap], .int .i64 m, .agg #[.int .i64 l, .int .i64 r]] w (.bool (l7F n R m l r)) := by
  unfold Ans
  have hb := bel2 w (.cells #[.int .i64 n, .slice oa R.length cap] 26) (.cells #[.int .i64 l, .int .i64 r] 38)
  have a0 := two_a w #[.int .i64 n, .slice oa R.length cap] 26 #[.int .i64 l, .int .i64 r] 38 0 _ rfl
  have a1 := two_a w #[.int .i64 n, .slice oa R.length cap] 26 #[.int .i64 l, .int .i64 r] 38 1 _ rfl
  have d0 := two_b w #[.int .i64 n, .slice oa R.length cap] 26 #[.int .i64 l, .int .i64 r] 38 0 _ rfl
  have d1 := two_b w #[.int .i64 n, .slice oa R.length cap] 26 #[.int .i64 l, .int .i64 r] 38 1 _ rfl
  obtain ⟨hn1, hn5, hr40, _⟩ := isTab_of ht
  have hr1 := hcr.1
  have hr2 := hcr.2
  have HH : Hid (∀ (w' : World) (l' : Int), St l' → RowsAt w' oa R → Ans Tryz.prog 72 #[.agg #[.int .i64 n, .slice oa R.length cap], .int .i64 m, .agg #[.int .i64 l', .int .i64 r]] w' (.bool (holdsF R m l' r))) := fun w' l' hl' h => c_l7Holds n oa cap R m l' r w' h ht hl' hcr
  have HSL : Hid (St l) := hsl
  clear ht hcr hsl
  cases hlr : hasc l r
  case true =>
    have hlr2 : (bits BinOp.and IntKind.i64 (l / 2 ^ r.toNat) 1 == 1) = true := hlr
    have HM : Hid (l7F n R m l r = false) := by show l7F n R m l r = false; unfold l7F; rw [hlr]; rfl
    go_enter Tryz.func57, Tryz.ntmps57
    go_wp2
    go_ret
    exact ⟨ret_bool HM.out.symm, hb⟩
  have hlr2 : (bits BinOp.and IntKind.i64 (l / 2 ^ r.toNat) 1 == 1) = false := hlr
  cases hh : holdsF R m l r
  case false =>
    have HM : Hid (l7F n R m l r = false) := by show l7F n R m l r = false; unfold l7F; rw [hlr, hh]; rfl
    go_enter Tryz.func57, Tryz.ntmps57
    go_wp2_with (first | (go_at_call 72; refine Calls.mono (Ans.eqb (HH.out _ l HSL.out (hR.keep hb)) hh) ?_; rintro e w1 ⟨rfl, hbn⟩; replace a0 := cell_keep a0 hbn; replace a1 := cell_keep a1 hbn; replace d0 := cell_keep d0 hbn; replace d1 := cell_keep d1 hbn; replace hb := bel_to (w := w) (by first | exact hb | exact hb.alloc hb.size _ | exact (hb.alloc hb.size _).alloc (Nat.le_trans hb.size (by simp)) _ | exact hb.setCell (by simp [hb.size]) _) hbn; clear hbn))
    go_ret
    exact ⟨ret_bool HM.out.symm, hb⟩
  have HM : Hid (l7F n R m l r = (membersUpTo l n.toNat).all fun c => !holdsF R m (dif l (one c)) r) := by show l7F n R m l r = _; unfold l7F; rw [hlr, hh]; rfl
  obtain ⟨N, rfl⟩ := Int.eq_ofNat_of_zero_le (show 0 ≤ n by omega)
  go_enter Tryz.func57, Tryz.ntmps57
  go_wp2_with (first | (go_at_call 72; refine Calls.mono (Ans.eqb (HH.out _ l HSL.out (hR.keep hb)) hh) ?_; rintro e w1 ⟨rfl, hbn⟩; replace a0 := cell_keep a0 hbn; replace a1 := cell_keep a1 hbn; replace d0 := cell_keep d0 hbn; replace d1 := cell_keep d1 hbn; replace hb := bel_to (w := w) (by first | exact hb | exact hb.alloc hb.size _ | exact (hb.alloc hb.size _).alloc (Nat.le_trans hb.size (by simp)) _ | exact hb.setCell (by simp [hb.size]) _) hbn; clear hbn))
  go_loopw [7] (fun i wr => ∃ k : Nat, i = .int .i64 k ∧ k ≤ N ∧ (membersUpTo l k).all (fun c => !holdsF R m (dif l (one c)) r) = true ∧ wr.cell? ⟨w.heap.size, 0, none⟩ = some (.int .i64 N) ∧ wr.cell? ⟨w.heap.size, 1, none⟩ = some (.slice oa R.length cap) ∧ wr.cell? ⟨w.heap.size + 1, 0, none⟩ = some (.int .i64 l) ∧ wr.cell? ⟨w.heap.size + 1, 1, none⟩ = some (.int .i64 r) ∧ Below w.heap.size w wr) (fun i _ => N - (intOf i).toNat)
  case atStart => exact ⟨0, rfl, Nat.zero_le _, by simp [membersUpTo], a0, a1, d0, d1, hb⟩
  case round =>
    clear a0 a1 d0 d1 hb
    obtain ⟨k, rfl, hk, hall, a0, a1, d0, d1, hb⟩ := hrel
    have HA : Hid ((membersUpTo l k).all (fun c => !holdsF R m (dif l (one c)) r) = true) := hall
    clear hall
    by_cases hlt : k < N
    · have HT : Hid ((membersUpTo l (k + 1)) = membersUpTo l k ++ (if hasc l k then [(k : Int)] else [])) := membersUpTo_succ l k
      have hco : Co (k : Int) := ⟨by omega, by omega⟩
      have HSD : Hid (St (dif l (one (k : Int)))) := dif_st HSL.out (one_st hco)
      have hx := fun (x : After wr) => (hR.keep hb).keep x.bel
      clear hco
      cases hkc : hasc l (k : Int)
      · have hk2 : (bits BinOp.and IntKind.i64 (l / 2 ^ k) 1 == 1) = false := hkc
        go_wp2_with fail
        (refine wp_region_after (by kernel_rfl) (by kernel_rfl) ?_; have q_a0 := fun (x : After _) => cell_keep a0 x.bel; have q_a1 := fun (x : After _) => cell_keep a1 x.bel; have q_d0 := fun (x : After _) => cell_keep d0 x.bel; have q_d1 := fun (x : After _) => cell_keep d1 x.bel; (repeat (go_big_quiet_step (fail))); clear q_a0; clear q_a1; clear q_d0; clear q_d1; refine wpQuiet_nil ?_; rintro _ ⟨⟨w1, hbn⟩, rfl⟩; (try simp only [After.w]); replace a0 := cell_keep a0 hbn; replace a1 := cell_keep a1 hbn; replace d0 := cell_keep d0 hbn; replace d1 := cell_keep d1 hbn; replace hb := bel_to (w := w) (by first | exact hb | exact hb.alloc hb.size _ | exact (hb.alloc hb.size _).alloc (Nat.le_trans hb.size (by simp)) _ | exact hb.setCell (by simp [hb.size]) _) hbn; clear hbn)
        go_wp2
        go_roundw
        case rel => exact ⟨k + 1, by go_num, by omega, by rw [HT.out, hkc]; simpa using HA.out, a0, a1, d0, d1, hb⟩
        case measure => simp [intOf]; omega
      · have hk2 : (bits BinOp.and IntKind.i64 (l / 2 ^ k) 1 == 1) = true := hkc
        cases hy : holdsF R m (dif l (one (k : Int))) r
        · go_wp2_with fail
          (refine wp_region_after (by kernel_rfl) (by kernel_rfl) ?_; have q_a0 := fun (x : After _) => cell_keep a0 x.bel; have q_a1 := fun (x : After _) => cell_keep a1 x.bel; have q_d0 := fun (x : After _) => cell_keep d0 x.bel; have q_d1 := fun (x : After _) => cell_keep d1 x.bel; (repeat (go_big_quiet_step ((first | (go_at_call 72; exact Ans.after (Ans.eqb (b' := false) (HH.out _ (dif l (one (k : Int))) HSD.out (hx _)) hy)))))); clear q_a0; clear q_a1; clear q_d0; clear q_d1; refine wpQuiet_nil ?_; rintro _ ⟨⟨w1, hbn⟩, rfl⟩; (try simp only [After.w]); replace a0 := cell_keep a0 hbn; replace a1 := cell_keep a1 hbn; replace d0 := cell_keep d0 hbn; replace d1 := cell_keep d1 hbn; replace hb := bel_to (w := w) (by first | exact hb | exact hb.alloc hb.size _ | exact (hb.alloc hb.size _).alloc (Nat.le_trans hb.size (by simp)) _ | exact hb.setCell (by simp [hb.size]) _) hbn; clear hbn)
          go_wp2
          go_roundw
          case rel => exact ⟨k + 1, by go_num, by omega, by rw [HT.out, hkc, List.all_append, HA.out]; simp [hy], a0, a1, d0, d1, hb⟩
          case measure => simp [intOf]; omega
        · have HF : Hid ((membersUpTo l N).all (fun c => !holdsF R m (dif l (one c)) r) = false) := by
            show (membersUpTo l N).all (fun c => !holdsF R m (dif l (one c)) r) = false
            rw [List.all_eq_false]
            refine ⟨(k : Int), ?_, by simp [hy]⟩
            unfold membersUpTo
            exact List.mem_filter.2 ⟨List.mem_map.2 ⟨k, List.mem_range.2 hlt, rfl⟩, hkc⟩
          go_wp2_with fail
          (refine wp_region_after (by kernel_rfl) (by kernel_rfl) ?_; have q_a0 := fun (x : After _) => cell_keep a0 x.bel; have q_a1 := fun (x : After _) => cell_keep a1 x.bel; have q_d0 := fun (x : After _) => cell_keep d0 x.bel; have q_d1 := fun (x : After _) => cell_keep d1 x.bel; (repeat (go_big_quiet_step ((first | (go_at_call 72; exact Ans.after (Ans.eqb (b' := true) (HH.out _ (dif l (one (k : Int))) HSD.out (hx _)) hy)))))); clear q_a0; clear q_a1; clear q_d0; clear q_d1; refine wpQuiet_nil ?_; rintro _ ⟨⟨w1, hbn⟩, rfl⟩; (try simp only [After.w]); replace a0 := cell_keep a0 hbn; replace a1 := cell_keep a1 hbn; replace d0 := cell_keep d0 hbn; replace d1 := cell_keep d1 hbn; replace hb := bel_to (w := w) (by first | exact hb | exact hb.alloc hb.size _ | exact (hb.alloc hb.size _).alloc (Nat.le_trans hb.size (by simp)) _ | exact hb.setCell (by simp [hb.size]) _) hbn; clear hbn)
          go_wp2
          go_ret
          exact ⟨ret_bool (by rw [HM.out]; exact HF.out.symm), hb⟩
    · have hkk : k = N := by omega
      have HS : Hid ((membersUpTo l N).all (fun c => !holdsF R m (dif l (one c)) r) = true) := by have := HA.out; rw [hkk] at this; exact this
      clear hkk
      go_wp2
      go_ret
      exact ⟨ret_bool (by rw [HM.out]; exact HS.out.symm), hb⟩
theorem c_specIsMinimalDep (n : Int) (oa) (cap : Nat) (R : List (List Int)) (m l r : Int) (w : World) (hR : RowsAt w oa R) :
    Ans Tryz.prog 38 #[.agg #[.int .i64 n, .slice oa R.length cap], .int .i64 m, .agg #[.int .i64 l, .int .i64 r]] w (.bool (isMinF n R m l r)) := by
  unfold Ans
  have hb := bel2 w (.cells #[.int .i64 n, .slice oa R.length cap] 26) (.cells #[.int .i64 l, .int .i64 r] 38)
  have a0 := two_a w #[.int .i64 n, .slice oa R.length cap] 26 #[.int .i64 l, .int .i64 r] 38 0 _ rfl
  have a1 := two_a w #[.int .i64 n, .slice oa R.length cap] 26 #[.int .i64 l, .int .i64 r] 38 1 _ rfl
  have d0 := two_b w #[.int .i64 n, .slice oa R.length cap] 26 #[.int .i64 l, .int .i64 r] 38 0 _ rfl
  have d1 := two_b w #[.int .i64 n, .slice oa R.length cap] 26 #[.int .i64 l, .int .i64 r] 38 1 _ rfl
  cases hf : (isTabF n R && modeF m)
  · have HM : Hid (isMinF n R m l r = false) := by show isMinF n R m l r = false; unfold isMinF askF; rw [hf]; rfl
    go_enter Tryz.func38, Tryz.ntmps38
    go_wp2_with (first | (go_at_call 51; refine Calls.mono (Ans.eqb (c_l4Fine _ _ _ _ _ _ (hR.keep hb)) hf) ?_; rintro e w1 ⟨rfl, hbn⟩; replace a0 := cell_keep a0 hbn; replace a1 := cell_keep a1 hbn; replace d0 := cell_keep d0 hbn; replace d1 := cell_keep d1 hbn; replace hb := bel_to (w := w) (by first | exact hb | exact hb.alloc hb.size _ | exact (hb.alloc hb.size _).alloc (Nat.le_trans hb.size (by simp)) _ | exact hb.setCell (by simp [hb.size]) _) hbn; clear hbn))
    go_ret
    exact ⟨ret_bool HM.out.symm, hb⟩
  · cases hd : isDepF n l r
    · have HM : Hid (isMinF n R m l r = false) := by show isMinF n R m l r = false; unfold isMinF askF; rw [hf, hd]; rfl
      go_enter Tryz.func38, Tryz.ntmps38
      go_wp2_with (first | (go_at_call 51; refine Calls.mono (Ans.eqb (c_l4Fine _ _ _ _ _ _ (hR.keep hb)) hf) ?_; rintro e w1 ⟨rfl, hbn⟩; replace a0 := cell_keep a0 hbn; replace a1 := cell_keep a1 hbn; replace d0 := cell_keep d0 hbn; replace d1 := cell_keep d1 hbn; replace hb := bel_to (w := w) (by first | exact hb | exact hb.alloc hb.size _ | exact (hb.alloc hb.size _).alloc (Nat.le_trans hb.size (by simp)) _ | exact hb.setCell (by simp [hb.size]) _) hbn; clear hbn) | (go_at_call 81; refine Calls.mono (Ans.eqb (c_specIsDep _ _ _ _) hd) ?_; rintro e w1 ⟨rfl, hbn⟩; replace a0 := cell_keep a0 hbn; replace a1 := cell_keep a1 hbn; replace d0 := cell_keep d0 hbn; replace d1 := cell_keep d1 hbn; replace hb := bel_to (w := w) (by first | exact hb | exact hb.alloc hb.size _ | exact (hb.alloc hb.size _).alloc (Nat.le_trans hb.size (by simp)) _ | exact hb.setCell (by simp [hb.size]) _) hbn; clear hbn))
      go_ret
      exact ⟨ret_bool HM.out.symm, hb⟩
    · have ht : isTabF n R = true := by have := hf; simp only [Bool.and_eq_true] at this; exact this.1
      have HM : Hid (isMinF n R m l r = l7F n R m l r) := isMin_l7 (by unfold askF; rw [hf, hd]; rfl)
      have hS := dep_of hd (isTab_of ht).2.1
      have HW : Hid (∀ w' : World, RowsAt w' oa R → Ans Tryz.prog 57 #[.agg #[.int .i64 n, .slice oa R.length cap], .int .i64 m, .agg #[.int .i64 l, .int .i64 r]] w' (.bool (l7F n R m l r))) := fun w' h => c_l7Minimal n oa cap R m l r w' h ht hS.1 hS.2
      clear ht hS
      go_enter Tryz.func38, Tryz.ntmps38
      go_wp2_with (first | (go_at_call 51; refine Calls.mono (Ans.eqb (c_l4Fine _ _ _ _ _ _ (hR.keep hb)) hf) ?_; rintro e w1 ⟨rfl, hbn⟩; replace a0 := cell_keep a0 hbn; replace a1 := cell_keep a1 hbn; replace d0 := cell_keep d0 hbn; replace d1 := cell_keep d1 hbn; replace hb := bel_to (w := w) (by first | exact hb | exact hb.alloc hb.size _ | exact (hb.alloc hb.size _).alloc (Nat.le_trans hb.size (by simp)) _ | exact hb.setCell (by simp [hb.size]) _) hbn; clear hbn) | (go_at_call 81; refine Calls.mono (Ans.eqb (c_specIsDep _ _ _ _) hd) ?_; rintro e w1 ⟨rfl, hbn⟩; replace a0 := cell_keep a0 hbn; replace a1 := cell_keep a1 hbn; replace d0 := cell_keep d0 hbn; replace d1 := cell_keep d1 hbn; replace hb := bel_to (w := w) (by first | exact hb | exact hb.alloc hb.size _ | exact (hb.alloc hb.size _).alloc (Nat.le_trans hb.size (by simp)) _ | exact hb.setCell (by simp [hb.size]) _) hbn; clear hbn) | (go_at_call 57; refine Calls.mono (HW.out _ (hR.keep hb)) ?_; rintro e w1 ⟨rfl, hbn⟩; replace a0 := cell_keep a0 hbn; replace a1 := cell_keep a1 hbn; replace d0 := cell_keep d0 hbn; replace d1 := cell_keep d1 hbn; replace hb := bel_to (w := w) (by first | exact hb | exact hb.alloc hb.size _ | exact (hb.alloc hb.size _).alloc (Nat.le_trans hb.size (by simp)) _ | exact hb.setCell (by simp [hb.size]) _) hbn; clear hbn))
      go_ret
      exact ⟨ret_bool HM.out.symm, hb⟩
end Go.Proofs.YtcenndlbhgfdfaaGreat
namespace Go.Proofs.YtcenndlbhgfdfaaGreat
open Go.RowKit
set_option linter.unusedVariables false
set_option maxRecDepth 100000

def keyI (x : Int) : Int := (card x : Int) * 32 + x
theorem keyI_fin : ∀ x : Fin 32, keyI (x.val : Int) = keyS x := by decide +kernel
theorem parts_up {N : Nat} (hN : N ≤ 5) : Up ((partsF N).map keyI) := by
  unfold partsF
  rw [if_pos ⟨by omega, by omega⟩, Int.toNat_natCast]
  have h := sortS_up (finsB_nodup N (by omega))
  unfold valS
  rw [List.map_map]
  have e : (keyI ∘ fun (x : Fin 32) => (x.val : Int)) = keyS := funext keyI_fin
  rw [e]
  exact h
theorem up_index {P : List Int} {f : Int → Int} (h : Up (P.map f)) {k : Nat} (hk : k < P.length) : (∀ z ∈ P, f z < f (nth P k) → z ∈ P.take k) ∧ ∀ y ∈ P.take k, f y < f (nth P k) := by
  unfold Up at h
  rw [List.pairwise_map, List.pairwise_iff_getElem] at h
  have ek : P[k] = nth P k := by have := nth_eq hk; rw [List.getElem?_eq_getElem hk] at this; injection this
  constructor
  · intro z hz hlt
    obtain ⟨j, hj, e⟩ := List.mem_iff_getElem.1 hz
    rcases Nat.lt_or_ge j k with h' | h'
    · exact List.mem_iff_getElem.2 ⟨j, by rw [List.length_take]; omega, by rw [List.getElem_take]; exact e⟩
    · exfalso
      rcases Nat.lt_or_ge k j with h'' | h''
      · have := h k j hk hj h''
        rw [ek, e] at this
        omega
      · have : j = k := by omega
        subst this
        rw [ek] at e
        rw [e] at hlt
        omega
  · intro y hy
    obtain ⟨j, hj, e⟩ := List.mem_iff_getElem.1 hy
    rw [List.length_take] at hj
    rw [List.getElem_take] at e
    have := h j k (by omega) hk (by omega)
    rw [e, ek] at this
    exact this
theorem viol_down {R : List (List Int)} {m r x y : Int} {i k : Nat} (hx : St x) (hy : St y) (hA : (row R i).length ≤ 5) (hi : ins x y = true) (h : violF R m y r i k = true) : violF R m x r i k = true := by
  unfold violF at h ⊢
  simp only [Bool.and_eq_true] at h ⊢
  exact ⟨ins_trans hx hy (agreeF_st hA) hi h.1, h.2⟩
theorem holds_up {R : List (List Int)} {m r x y : Int} (hR : ∀ i, i < R.length → (row R i).length ≤ 5) (hx : St x) (hy : St y) (hi : ins x y = true) (h : holdsF R m x r = true) : holdsF R m y r = true := by
  unfold holdsF at h ⊢
  rw [decide_eq_true_eq] at h ⊢
  intro i hil k hk hik
  cases hv : violF R m y r i k
  · rfl
  · have := viol_down (k := k) hx hy (hR i hil) hi hv
    rw [h i hil k hk hik] at this
    cases this
theorem le_of_ins {x y : Int} (hx : St x) (hy : St y) (h : ins x y = true) : x ≤ y := by
  obtain ⟨n, hn, rfl⟩ := st_nat hx; obtain ⟨k, hk, rfl⟩ := st_nat hy
  have h' : ∀ n < 32, ∀ k < 32, ins ((n : Nat) : Int) ((k : Nat) : Int) = true → n ≤ k := by decide +kernel
  have := h' n hn k hk h
  omega
theorem ins_dif {y x c : Int} (hy : St y) (hx : St x) (hc : Co c) (h : ins y x = true) (hn : hasc y c = false) : ins y (dif x (one c)) = true :=
  (ins_iff hy (dif_st hx (one_st hc))).2 fun d hd hyd => by
    rw [hasc_dif hx (one_st hc) hd, hasc_one hc hd, (ins_iff hy hx).1 h d hd hyd]
    have : c ≠ d := fun e => by subst e; rw [hn] at hyd; cases hyd
    simp [this]
theorem dif_ins {x c : Int} (hx : St x) (hc : Co c) : ins (dif x (one c)) x = true :=
  (ins_iff (dif_st hx (one_st hc)) hx).2 fun d hd h => by
    rw [hasc_dif hx (one_st hc) hd] at h
    simp only [Bool.and_eq_true] at h
    exact h.1
theorem dif_not {x c : Int} (hx : St x) (hc : Co c) : hasc (dif x (one c)) c = false := by
  rw [hasc_dif hx (one_st hc) hc, hasc_one hc hc]; simp
theorem lacks {x y : Int} (hx : St x) (hy : St y) (h : ins y x = true) (hne : y ≠ x) : ∃ c, Co c ∧ hasc x c = true ∧ hasc y c = false := by
  refine Classical.byContradiction fun hn => hne (set_ext hy hx fun c hc => ?_)
  cases e : hasc x c
  · cases e' : hasc y c
    · rfl
    · rw [(ins_iff hy hx).1 h c hc e'] at e; cases e
  · cases e' : hasc y c
    · exact absurd ⟨c, hc, e, e'⟩ hn
    · rfl
theorem taken_filter {N : Nat} {R : List (List Int)} {m r : Int} (hN : N ≤ 5) (hR : ∀ i, i < R.length → (row R i).length ≤ 5) (hr : 0 ≤ r ∧ r < 5) :
    ∀ k, k ≤ (partsF N).length → takenF (fun x r => holdsF R m x r) r ((partsF N).take k) = ((partsF N).take k).filter fun x => l7F N R m x r
  | 0, _ => by simp [takenF]
  | k + 1, hk => by
    have hlt : k < (partsF N).length := by omega
    rw [taken_succ _ _ hlt, taken_filter hN hR hr k (by omega), filter_take_succ _ _ _ hlt]
    have hup := up_index (parts_up hN) hlt
    have hxm : nth (partsF N) k ∈ partsF N := List.mem_iff_getElem?.2 ⟨k, nth_eq hlt⟩
    generalize nth (partsF N) k = x at *
    have hpm : ∀ z, z ∈ partsF N ↔ 0 ≤ z ∧ z < 2 ^ N := fun z => by
      have := partsF_mem (n := (N : Int)) (by omega) (by omega) (x := z)
      rw [Int.toNat_natCast] at this
      exact this
    have h32 := (pow_wrap (n := (N : Int)) (by omega) (by omega)).2.1
    rw [Int.toNat_natCast] at h32
    have hxr := (hpm x).1 hxm
    have sx : St x := ⟨hxr.1, by omega⟩
    have key : ((!hasc x r && !anyIns (((partsF N).take k).filter fun x => l7F N R m x r) x) && holdsF R m x r) = l7F N R m x r := by
      have hmb : membersUpTo x N = membersF x := by
        have := members_below (n := (N : Int)) (by omega) (by omega) hxr.1 (by rw [Int.toNat_natCast]; exact hxr.2)
        rw [Int.toNat_natCast] at this
        exact this
      rw [Bool.eq_iff_iff]
      generalize hTl : ((partsF N).take k).filter (fun x => l7F N R m x r) = Tl
      unfold l7F
      rw [Int.toNat_natCast, hmb]
      simp only [Bool.and_eq_true, Bool.not_eq_true', List.all_eq_true]
      constructor
      · rintro ⟨⟨h1, h2⟩, h3⟩
        refine ⟨h1, h3, fun c hc => ?_⟩
        obtain ⟨cc, ch⟩ := members_co c hc
        cases hd : holdsF R m (dif x (one c)) r
        · rfl
        · exfalso
          have sd := dif_st sx (one_st cc)
          obtain ⟨z, hz, hzi⟩ := exists_min (p := fun y => holdsF R m y r) (card (dif x (one c))) (dif x (one c)) (Nat.le_refl _) sd hd
          obtain ⟨sz, pz, mz⟩ := minL_mem.1 hz
          have hzx := ins_trans sz sd sx hzi (dif_ins sx cc)
          have hzr : hasc z r = false := by
            cases e : hasc z r
            · rfl
            · rw [(ins_iff sz sx).1 hzx r hr e] at h1; cases h1
          have hne : z ≠ x := fun e => by
            subst e
            have := (ins_iff sz sd).1 hzi c cc ch
            rw [dif_not sz cc] at this; cases this
          have hzl := le_of_ins sz sx hzx
          have hzm : z ∈ partsF N := (hpm z).2 ⟨sz.1, by omega⟩
          have hcard := card_lt sz sx hzx hne
          have hzt := hup.1 z hzm (by unfold keyI; omega)
          have hz7 : l7F N R m z r = true := by
            have hmz : membersUpTo z N = membersF z := by
              have := members_below (n := (N : Int)) (by omega) (by omega) sz.1 (by rw [Int.toNat_natCast]; omega)
              rw [Int.toNat_natCast] at this
              exact this
            unfold l7F
            rw [Int.toNat_natCast, hmz]
            simp only [Bool.and_eq_true, Bool.not_eq_true', List.all_eq_true]
            refine ⟨hzr, pz, fun c' hc' => ?_⟩
            obtain ⟨cc', ch'⟩ := members_co c' hc'
            cases hd' : holdsF R m (dif z (one c')) r
            · rfl
            · exfalso
              have := mz _ (dif_st sz (one_st cc')) hd' (dif_ins sz cc')
              have h4 := dif_not sz cc'
              rw [this, ch'] at h4; cases h4
          have : anyIns Tl x = true := List.any_eq_true.2 ⟨z, by rw [← hTl]; exact List.mem_filter.2 ⟨hzt, hz7⟩, hzx⟩
          rw [this] at h2; cases h2
      · rintro ⟨h1, h3, h4⟩
        refine ⟨⟨h1, ?_⟩, h3⟩
        cases ha : anyIns Tl x
        · rfl
        · exfalso
          obtain ⟨y, hy, hyx⟩ := List.any_eq_true.1 ha
          rw [← hTl] at hy
          obtain ⟨hyt, hy7⟩ := List.mem_filter.1 hy
          have hyr := (hpm y).1 (List.mem_of_mem_take hyt)
          have sy : St y := ⟨hyr.1, by omega⟩
          have hlt2 := hup.2 y hyt
          have hne : y ≠ x := fun e => by subst e; omega
          obtain ⟨c, cc, cx, cy⟩ := lacks sx sy hyx hne
          have hpy : holdsF R m y r = true := by
            unfold l7F at hy7
            simp only [Bool.and_eq_true] at hy7
            exact hy7.2.1
          have := holds_up hR sy (dif_st sx (one_st cc)) (ins_dif sy sx cc hyx cy) hpy
          rw [h4 c (membersT_mem sx cc cx)] at this
          cases this
    unfold stepM
    rw [key]
    split
    · rfl
    · simp
def minDepsF (n : Int) (R : List (List Int)) (m : Int) : List (Int × Int) := if isTabF n R && modeF m then colsF (fun x r => holdsF R m x r) (partsF n) n.toNat else []
def colG (n : Int) (R : List (List Int)) (m : Int) (L : List Int) (r : Int) : List (Int × Int) := (L.filter fun x => l7F n R m x r).map fun x => (x, r)
def colsG (n : Int) (R : List (List Int)) (m : Int) (k : Nat) : List (Int × Int) := (List.range k).flatMap fun (r : Nat) => colG n R m (partsF n) (r : Int)
theorem colsG_succ (n : Int) (R : List (List Int)) (m : Int) (k : Nat) : colsG n R m (k + 1) = colsG n R m k ++ colG n R m (partsF n) k := by unfold colsG; rw [List.range_succ, List.flatMap_append]; simp
theorem cols_same {N : Nat} {R : List (List Int)} {m : Int} (hN : N ≤ 5) (hR : ∀ i, i < R.length → (row R i).length ≤ 5) : ∀ k, k ≤ N → colsF (fun x r => holdsF R m x r) (partsF N) k = colsG N R m k
  | 0, _ => by simp [colsF, colsG]
  | k + 1, hk => by
    rw [colsF_succ, colsG_succ, cols_same hN hR k (by omega)]
    congr 1
    unfold colF colG
    have h := taken_filter (m := m) (r := (k : Int)) hN hR (by omega) (partsF N).length (Nat.le_refl _)
    rw [List.take_length] at h
    rw [h]
theorem minDeps_len (n : Int) (R : List (List Int)) (m : Int) : (minDepsF n R m).length ≤ Room := by
  unfold minDepsF
  split
  · next h =>
    simp only [Bool.and_eq_true] at h
    obtain ⟨h1, h5, _, _⟩ := isTab_of h.1
    have a := colsF_len (fun x r => holdsF R m x r) (partsF n) n.toNat
    have b := partsF_len n
    have c : (partsF n).length * n.toNat ≤ 32 * 5 := Nat.mul_le_mul b (by omega)
    unfold Room; omega
  · simp
end Go.Proofs.YtcenndlbhgfdfaaGreat
namespace Go.Proofs.YtcenndlbhgfdfaaGreat
open Go.RowKit
set_option linter.unusedVariables false
set_option maxRecDepth 100000

def candF (N k : Nat) : Int × Int := (nth (partsF N) (k / N), ((k % N : Nat) : Int))
def covS (F : List (Int × Int)) (x r : Int) : Bool := F.any fun o => (o.2 == r) && ins o.1 x
def stepF (R : List (List Int)) (m : Int) (N k : Nat) (z : List (Int × Int) × Int) : List (Int × Int) × Int :=
  if hasc (candF N k).1 (candF N k).2 || covS z.1 (candF N k).1 (candF N k).2 then z else (if holdsF R m (candF N k).1 (candF N k).2 then z.1 ++ [((candF N k).1, (candF N k).2)] else z.1, z.2 + 1)
def repF (R : List (List Int)) (m : Int) (N : Nat) : Nat → List (Int × Int) × Int
  | 0 => ([], 0)
  | k + 1 => stepF R m N k (repF R m N k)
theorem parts_full {N : Nat} (hN : N ≤ 5) : (partsF N).length = 2 ^ N := by
  unfold partsF
  rw [if_pos ⟨by omega, by omega⟩, Int.toNat_natCast]
  unfold valS sortS finsB
  simp
theorem cand_ok {N k : Nat} (hN : N ≤ 5) (h1 : 1 ≤ N) (hk : k < N * 2 ^ N) : k / N < (partsF N).length ∧ St (candF N k).1 ∧ Co (candF N k).2 ∧ (candF N k).1 < 2 ^ N ∧ (candF N k).2 < N := by
  have h2 : k / N < (partsF N).length := by
    rw [parts_full hN]
    exact Nat.div_lt_of_lt_mul hk
  have hm := List.mem_iff_getElem?.2 ⟨k / N, nth_eq h2⟩
  have h3 := (partsF_mem (n := (N : Int)) (by omega) (by omega)).1 hm
  have h4 := (pow_wrap (n := (N : Int)) (by omega) (by omega)).2.1
  rw [Int.toNat_natCast] at h3 h4
  have h5 := Nat.mod_lt k (show 0 < N by omega)
  have e5 : St (candF N k).1 := ⟨h3.1, by show nth (partsF N) (k / N) < 32; omega⟩
  have e6 : Co (candF N k).2 := ⟨by show 0 ≤ ((k % N : Nat) : Int); omega, by show ((k % N : Nat) : Int) < 5; omega⟩
  exact ⟨h2, e5, e6, h3.2, by show ((k % N : Nat) : Int) < N; omega⟩
theorem rep_ok {R : List (List Int)} {m : Int} {N : Nat} (hN : N ≤ 5) (h1 : 1 ≤ N) : ∀ k, k ≤ N * 2 ^ N → (∀ o ∈ (repF R m N k).1, St o.1 ∧ Co o.2) ∧ (repF R m N k).1.length ≤ k ∧ 0 ≤ (repF R m N k).2 ∧ (repF R m N k).2 ≤ k
  | 0, _ => ⟨(fun o ho => by cases ho), Nat.le_refl _, Int.le_refl _, Int.le_refl _⟩
  | k + 1, hk => by
    obtain ⟨i1, i2, i3, i4⟩ := rep_ok (R := R) (m := m) hN h1 k (by omega)
    obtain ⟨_, c1, c2, _⟩ := cand_ok hN h1 (show k < N * 2 ^ N by omega)
    show (∀ o ∈ (stepF R m N k (repF R m N k)).1, St o.1 ∧ Co o.2) ∧ (stepF R m N k (repF R m N k)).1.length ≤ k + 1 ∧ 0 ≤ (stepF R m N k (repF R m N k)).2 ∧ (stepF R m N k (repF R m N k)).2 ≤ (k + 1 : Nat)
    unfold stepF
    split
    · exact ⟨i1, by omega, i3, by omega⟩
    · split
      · refine ⟨fun o ho => ?_, by rw [List.length_append]; simp; omega, by omega, by simp; omega⟩
        rcases List.mem_append.1 ho with h | h
        · exact i1 o h
        · rw [List.mem_singleton.1 h]; exact ⟨c1, c2⟩
      · exact ⟨i1, by show (repF R m N k).1.length ≤ k + 1; omega, by show 0 ≤ (repF R m N k).2 + 1; omega, by show (repF R m N k).2 + 1 ≤ ((k + 1 : Nat) : Int); omega⟩
theorem count_le {N : Nat} (hN : N ≤ 5) : N * 2 ^ N ≤ 160 := by
  have h : ∀ N < 6, N * 2 ^ N ≤ 160 := by decide
  exact h N (by omega)
theorem c_candidatesOf (N : Nat) (hN : N ≤ 5) (w : World) : Ans Tryz.prog 44 #[.int .i64 N] w (.int .i64 ((N * 2 ^ N : Nat) : Int)) := by
  unfold Ans
  have h : ∀ N < 6, wrap64 (((N : Nat) : Int) * 2 ^ N) = ((N * 2 ^ N : Nat) : Int) := by decide +kernel
  have h0 := h N (by omega)
  go_enter Tryz.func44, Tryz.ntmps44
  go_wp2
  go_ret
  exact ⟨ret_int (by simpa using h0), Below.refl _ _⟩
theorem c_l8Count (N : Nat) (hN : N ≤ 5) (w : World) : Ans Tryz.prog 48 #[.int .i64 N] w (.int .i64 ((N * 2 ^ N : Nat) : Int)) := by
  unfold Ans
  have h : ∀ N < 6, wrap64 (((N : Nat) : Int) * 2 ^ N) = ((N * 2 ^ N : Nat) : Int) := by decide +kernel
  have h0 := h N (by omega)
  go_enter Tryz.func48, Tryz.ntmps48
  go_wp2
  go_ret
  exact ⟨ret_int (by simpa using h0), Below.refl _ _⟩
set_option maxHeartbeats 800000 in
theorem c_candidate (N k : Nat) (hN : N ≤ 5) (h1 : 1 ≤ N) (hk : k < N * 2 ^ N) (w : World) :
    Ans Tryz.prog 54 #[.int .i64 N, .int .i64 k] w (.agg #[.int .i64 (candF N k).1, .int .i64 (candF N k).2]) := by
  unfold Ans
  obtain ⟨hlt, hst, hco, _, _⟩ := cand_ok hN h1 hk
  have hk160 := count_le hN
  have hpl := partsF_len N
  have hp0 : 0 < (partsF N).length := Nat.lt_of_le_of_lt (Nat.zero_le _) hlt
  obtain ⟨x, hx⟩ : ∃ x, x = (candF N k).1 := ⟨_, rfl⟩
  obtain ⟨r, hr⟩ : ∃ r, r = (candF N k).2 := ⟨_, rfl⟩
  rw [← hx, ← hr]
  obtain ⟨q, hq⟩ : ∃ q, q = k / N := ⟨_, rfl⟩
  have hx2 : x = nth (partsF N) q := by rw [hx, hq]; rfl
  have hr2 : r = (k : Int) % (N : Int) := by rw [hr]; show ((k % N : Nat) : Int) = _; exact Int.natCast_emod k N
  have hn0 : 0 < N := by omega
  have e1 : (k : Int).tdiv (N : Int) = (q : Int) := by rw [Int.tdiv_eq_ediv_of_nonneg (by omega), hq]; exact (Int.natCast_ediv k N).symm
  have e2 : (k : Int).tmod (N : Int) = r := by rw [Int.tmod_eq_emod_of_nonneg (by omega), hr2]
  have e3 : (k : Int) / (N : Int) = (q : Int) := by rw [hq]; exact (Int.natCast_ediv k N).symm
  rw [← hq] at hlt
  have hq160 : q ≤ 32 := by omega
  have hr1 : 0 ≤ r ∧ r < 5 := by rw [hr]; exact ⟨hco.1, hco.2⟩
  have hr5 := hr1.1
  have hr6 := hr1.2
  have HR2 : Hid (r = (k : Int) % (N : Int)) := hr2
  have HX2 : Hid (nth (partsF N) q = x) := hx2.symm
  have e4 : (k : Int) % (N : Int) = r := hr2.symm
  have e5 : IntKind.i64.wrap (q : Int) = (q : Int) := IntWalk.i64_in _ (by omega)
  have e6 : IntKind.i64.wrap r = r := IntWalk.i64_in _ (by omega)
  have e7 : ((N : Int) == 0) = false := by simp; omega
  have e8 : ¬ N = 0 := by omega
  clear hx hr hx2 hr2 hst hco hr1 hq
  have hb := (Below.refl w.heap.size w).alloc (Nat.le_refl _) (.cells #[.int .i64 0, .int .i64 0] 38)
  have kR := Blk.new w #[.int .i64 0, .int .i64 0] 38
  go_enter Tryz.func54, Tryz.ntmps54
  go_wp2_with fail
  go_region_with ((refine (c_PartsBySize (N : Int) _).mono ?_; rintro e w1 ⟨v, rfl, hP, hbn⟩; obtain ⟨o1, c1, rfl⟩ := hP.shape; obtain ⟨b2, off2, rfl, hbs2, hca⟩ := (hP.ints rfl (by unfold Room; omega)).at_ hp0; have hc2 := hca _ hlt; rw [HX2.out] at hc2; have kR1 := kR.drew.keep hbn; have r0 := kR1.cell 0 (.int .i64 0) rfl; have r1 := kR1.cell 1 (.int .i64 0) rfl; have q0 := kR1.free 0; have q1 := kR1.free 1; clear hca kR1))
  have hb1 := bel_to hb.drew hbn
  clear hbn hP hb kR
  go_wp2
  exact bodyPost_ret (v := .agg #[.int .i64 x, .int .i64 r]) (by simp [results, Tryz.results54, go_sem, r0, r1]) rfl ⟨rfl, Below.setCell (p := (⟨w.heap.size, 1, none⟩ : Addr)) (Below.setCell (p := (⟨w.heap.size, 0, none⟩ : Addr)) hb1 (Nat.le_refl _) _) (Nat.le_refl _) _⟩
set_option maxHeartbeats 800000 in
theorem c_l8Dep (N k : Nat) (hN : N ≤ 5) (h1 : 1 ≤ N) (hk : k < N * 2 ^ N) (w : World) :
    Ans Tryz.prog 55 #[.int .i64 N, .int .i64 k] w (.agg #[.int .i64 (candF N k).1, .int .i64 (candF N k).2]) := by
  unfold Ans
  obtain ⟨hlt, hst, hco, _, _⟩ := cand_ok hN h1 hk
  have hk160 := count_le hN
  have hpl := partsF_len N
  have hp0 : 0 < (partsF N).length := Nat.lt_of_le_of_lt (Nat.zero_le _) hlt
  obtain ⟨x, hx⟩ : ∃ x, x = (candF N k).1 := ⟨_, rfl⟩
  obtain ⟨r, hr⟩ : ∃ r, r = (candF N k).2 := ⟨_, rfl⟩
  rw [← hx, ← hr]
  obtain ⟨q, hq⟩ : ∃ q, q = k / N := ⟨_, rfl⟩
  have hx2 : x = nth (partsF N) q := by rw [hx, hq]; rfl
  have hr2 : r = (k : Int) % (N : Int) := by rw [hr]; show ((k % N : Nat) : Int) = _; exact Int.natCast_emod k N
  have hn0 : 0 < N := by omega
  have e1 : (k : Int).tdiv (N : Int) = (q : Int) := by rw [Int.tdiv_eq_ediv_of_nonneg (by omega), hq]; exact (Int.natCast_ediv k N).symm
  have e2 : (k : Int).tmod (N : Int) = r := by rw [Int.tmod_eq_emod_of_nonneg (by omega), hr2]
  have e3 : (k : Int) / (N : Int) = (q : Int) := by rw [hq]; exact (Int.natCast_ediv k N).symm
  rw [← hq] at hlt
  have hq160 : q ≤ 32 := by omega
  have hr1 : 0 ≤ r ∧ r < 5 := by rw [hr]; exact ⟨hco.1, hco.2⟩
  have hr5 := hr1.1
  have hr6 := hr1.2
  have HR2 : Hid (r = (k : Int) % (N : Int)) := hr2
  have HX2 : Hid (nth (partsF N) q = x) := hx2.symm
  have e4 : (k : Int) % (N : Int) = r := hr2.symm
  have e5 : IntKind.i64.wrap (q : Int) = (q : Int) := IntWalk.i64_in _ (by omega)
  have e6 : IntKind.i64.wrap r = r := IntWalk.i64_in _ (by omega)
  have e7 : ((N : Int) == 0) = false := by simp; omega
  have e8 : ¬ N = 0 := by omega
  clear hx hr hx2 hr2 hst hco hr1 hq
  have hb := (Below.refl w.heap.size w).alloc (Nat.le_refl _) (.cells #[.int .i64 0, .int .i64 0] 38)
  have kR := Blk.new w #[.int .i64 0, .int .i64 0] 38
  go_enter Tryz.func55, Tryz.ntmps55
  go_wp2_with fail
  refine (c_specPartsBySize (N : Int) _).mono ?_
  rintro e w1 ⟨v, rfl, hP, hbn⟩
  obtain ⟨o1, c1, rfl⟩ := hP.shape
  obtain ⟨b2, off2, rfl, hbs2, hca⟩ := (hP.ints rfl (by unfold Room; omega)).at_ hp0
  have hc2 := hca _ hlt
  rw [HX2.out] at hc2
  have kR1 := kR.keep hbn
  have r0 := kR1.cell 0 (.int .i64 0) rfl
  have r1 := kR1.cell 1 (.int .i64 0) rfl
  have q0 := kR1.free 0
  have q1 := kR1.free 1
  have hb1 := bel_to hb hbn
  clear hca kR1 hbn hP hb kR
  go_wp2_with fail
  go_region_with (fail)
  go_wp2
  exact bodyPost_ret (v := .agg #[.int .i64 x, .int .i64 r]) (by simp [results, Tryz.results55, go_sem, r0, r1]) rfl ⟨rfl, Below.setCell (p := (⟨w.heap.size, 1, none⟩ : Addr)) (Below.setCell (p := (⟨w.heap.size, 0, none⟩ : Addr)) hb1.drew (Nat.le_refl _) _) (Nat.le_refl _) _⟩
end Go.Proofs.YtcenndlbhgfdfaaGreat
namespace Go.Proofs.YtcenndlbhgfdfaaGreat
open Go.RowKit
set_option linter.unusedVariables false
set_option maxRecDepth 100000
set_option maxHeartbeats 1600000

theorem step_append_own {P : Program} (w : World) {ops : Array Oper} {o : Oper} {a : Act} {K : Act → World → Prop} {Q : Exit → Act → World → Prop} {E : Prop} (hgd : o.guard = none) (s x : Operand) (t : TypeId)
    (ho : o.op = .call { callee := .builtin .append, args := #[s, x], argTypes := #[t, t] })
    (base : Nat) (e : TypeId) (i : TypeInfo) (z : Value) (size bytes : Nat) (ht : P.underlying t = some (.slice e)) (hi : P.info? e = some i) (hz : i.zero = some z)
    (hsize : i.size = size) (hby : i.bytes = bytes) (hzs : z.cells.size = size) (hsz : 0 < size)
    (v : Value) (n : Nat) (xs : List Value) (hs : a.eval s = v) (hown : w.ownsRow base e size v n xs)
    (ad : Addr) (m c : Nat) (news : List Value) (hx : a.eval x = .slice (some ad) m c) (hl : news.length = m * size) (hnews : ∀ j u, news[j]? = some u → w.cell? (ad.add j) = some u) (h1 : ∀ u ∈ news, u.oneCell' = true)
    (h63 : n + m ≤ maxLen) (hbytes : (n + m) * bytes ≤ 140737488355328) (hbase : base ≤ w.heap.size)
    (h : ∀ v' w', w'.ownsRow base e size v' (n + m) (xs ++ news) → w.grownBy w' v.ownBlock → K (a.put o.dst v') w') :
    if Region.wanted o (yielded ops a.tmps) = true then Oper.wp P o a w K Q else E := by
  have hw : Region.wanted o (yielded ops a.tmps) = true := by simp [Region.wanted, hgd]
  rw [if_pos hw]
  exact wp_append_own w s x t ho base e i z size bytes ht hi hz hsize hby hzs hsz v n xs hs hown ad m c news hx hl hnews h1 h63 hbytes hbase fun v' w' h2 h3 _ => h v' w' h2 h3

/-- An operation whose guard is shut, taken first. -/
theorem wpAnyH_skip {P : Program} {ops : Array Oper} {Q : Exit → Act → World → Prop} {md : Region.Mode} {S : World → Prop} {i : Nat} {oi : Oper} (d : Option Nat) {fuel : Nat} {listed : Array Bool} {a : Act} {w : World} (hi : ops[i]? = some oi) (hd : oi.dst = d)
    (hs : Region.noSelect ops = true) (hf : Region.free md ops listed i = true) (hr : (Region.ready md ops listed).contains i = true)
    (hQ : ∀ c a w, Q (.panic c) (a.put d undef) w → Q (.panic c) a w) (hy : Region.wanted oi (yielded ops a.tmps) = false) (hS : S w)
    (h : wpAnyH P md ops Q S fuel (listed.setIfInBounds i true) (a.put d undef) w) : wpAnyH P md ops Q S (fuel + 1) listed a w := by
  subst hd
  exact wpAnyH_take hi hs hf hr hQ (Or.inr ⟨hy, rfl⟩) hS h
/-- An operation that yields a value whatever the world, taken first. -/
theorem wpAnyH_val {P : Program} {ops : Array Oper} {Q : Exit → Act → World → Prop} {md : Region.Mode} {S : World → Prop} {i : Nat} {oi : Oper} (d : Option Nat) (v : Value) {fuel : Nat} {listed : Array Bool} {a : Act} {w : World} (hi : ops[i]? = some oi) (hd : oi.dst = d)
    (hs : Region.noSelect ops = true) (hf : Region.free md ops listed i = true) (hr : (Region.ready md ops listed).contains i = true)
    (hQ : ∀ c a w, Q (.panic c) (a.put d v) w → Q (.panic c) a w) (hw : Region.wanted oi (yielded ops a.tmps) = true) (hS : S w) (hy : ∀ w, S w → (execOp a.eval oi).run P w = .ok (.value v) w)
    (h : wpAnyH P md ops Q S fuel (listed.setIfInBounds i true) (a.put d v) w) : wpAnyH P md ops Q S (fuel + 1) listed a w := by
  subst hd
  exact wpAnyH_take hi hs hf hr hQ (Or.inl ⟨hw, hy⟩) hS h
theorem nl_take {D : List (Int × Int)} {i k : Nat} (h : k < i) : nl (D.take i) k = nl D k := by unfold nl; simp [List.getD, h]
theorem nr_take {D : List (Int × Int)} {i k : Nat} (h : k < i) : nr (D.take i) k = nr D k := by unfold nr; simp [List.getD, h]
theorem DepsAt.take {w : World} {oa : Option Addr} {D : List (Int × Int)} (h : DepsAt w oa D) (i : Nat) : DepsAt w oa (D.take i) := by
  refine ⟨by have := h.len; rw [List.length_take]; omega, fun h0 => ?_⟩
  rw [List.length_take] at h0
  obtain ⟨b, off, e, hlt, hc⟩ := h.at_ (by omega)
  refine ⟨b, off, e, hlt, fun k hk => ?_⟩
  rw [List.length_take] at hk
  rw [nl_take (by omega), nr_take (by omega)]
  exact hc k (by omega)
theorem c_copyTake (a : Addr) (cap i : Nat) (D : List (Int × Int)) (w : World) (hD : DepsAt w (some a) D) (hi : i ≤ D.length) :
    Calls Tryz.prog 88 #[.slice (some a) i cap] w fun e w' => ∃ v, e = .returned v ∧ OwnD w' w.heap.size v (D.take i) ∧ Below w.heap.size w w' := by
  have h := c_copyDeps (some a) cap (D.take i) w (hD.take i) (by intro h; cases h)
  rwa [List.length_take, Nat.min_eq_left hi] at h
theorem OwnD.row {w : World} {base : Nat} {v : Value} {i : Nat} {D : List (Int × Int)} (hi : i ≤ D.length) (h : OwnD w base v (D.take i)) : w.ownsRow base 38 2 v i (dcells (D.take i)) := by
  unfold OwnD at h; rwa [List.length_take, Nat.min_eq_left hi] at h

theorem no_news {w : World} {ad : Addr} : ∀ (j : Nat) (u : Value), ([] : List Value)[j]? = some u → w.cell? (ad.add j) = some u := by intro j u hj; cases hj
theorem no_one : ∀ u ∈ ([] : List Value), u.oneCell' = true := by intro u hu; cases hu
end Go.Proofs.YtcenndlbhgfdfaaGreat
namespace Go.Proofs.YtcenndlbhgfdfaaGreat
open Go.RowKit
set_option linter.unusedVariables false
set_option maxRecDepth 100000

def set6 (w : World) (k : Nat) (b0 b1 b2 b3 b4 b5 : Value) : World := (((((w.setCell ⟨k, 0, none⟩ b0).setCell ⟨k, 1, none⟩ b1).setCell ⟨k, 2, none⟩ b2).setCell ⟨k, 3, none⟩ b3).setCell ⟨k, 4, none⟩ b4).setCell ⟨k, 5, none⟩ b5
theorem OwnD.set_ne {w : World} {B g : Nat} {v : Value} {D : List (Int × Int)} (h : OwnD w B v D) (j : Nat) (u : Value) (hg : v.ownBlock ≠ some g) : OwnD (w.setCell ⟨g, j, none⟩ u) B v D := ownsRow_setCell_other h (a := ⟨g, j, none⟩) hg u
theorem OwnD.set6 {w : World} {B k : Nat} {v : Value} {D : List (Int × Int)} (h : OwnD w B v D) (hk : v.ownBlock ≠ some k) (b0 b1 b2 b3 b4 b5 : Value) : OwnD (set6 w k b0 b1 b2 b3 b4 b5) B v D :=
  (((((h.set_ne 0 b0 hk).set_ne 1 b1 hk).set_ne 2 b2 hk).set_ne 3 b3 hk).set_ne 4 b4 hk).set_ne 5 b5 hk
theorem bel_set6 {w0 w : World} {B : Nat} (h : Below B w0 w) {k : Nat} (hk : B ≤ k) (b0 b1 b2 b3 b4 b5 : Value) : Below B w0 (set6 w k b0 b1 b2 b3 b4 b5) :=
  Below.setCell (p := ⟨k, 5, none⟩) (Below.setCell (p := ⟨k, 4, none⟩) (Below.setCell (p := ⟨k, 3, none⟩) (Below.setCell (p := ⟨k, 2, none⟩) (Below.setCell (p := ⟨k, 1, none⟩) (Below.setCell (p := ⟨k, 0, none⟩) h hk b0) hk b1) hk b2) hk b3) hk b4) hk b5
theorem OwnD.nilcap {w : World} {B n c : Nat} {oa : Option Addr} {D : List (Int × Int)} (h : OwnD w B (.slice oa n c) D) : oa = none → c = 0 := by
  intro e
  subst e
  rcases h.2 with ⟨hv, _⟩ | ⟨g, c', cur, hv, _⟩
  · cases hv; rfl
  · cases hv
theorem OwnD.not_new {w : World} {B : Nat} {v : Value} {D : List (Int × Int)} (h : OwnD w B v D) {g : Nat} (hg : w.heap.size ≤ g) : v.ownBlock ≠ some g := fun e => by
  have := (World.ownsRow.lt h g e).2
  omega
theorem Fresh.self (w : World) (v : Value) : Fresh w v v := .inl rfl
theorem covS_take {F : List (Int × Int)} {x r : Int} {j : Nat} (hj : j < F.length) : covS (F.take (j + 1)) x r = (covS (F.take j) x r || ((nr F j == r) && ins (nl F j) x)) := by
  unfold covS
  rw [List.take_add_one, dnth_eq hj, List.any_append]; simp
theorem covS_at {F : List (Int × Int)} {x r : Int} {j : Nat} (hj : j < F.length) (h : ((nr F j == r) && ins (nl F j) x) = true) : covS F x r = true := List.any_eq_true.2 ⟨(nl F j, nr F j), List.mem_iff_getElem?.2 ⟨j, dnth_eq hj⟩, h⟩
theorem ask_cand {N k : Nat} {R : List (List Int)} {m : Int} (ht : isTabF N R = true) (hm : modeF m = true) (hk : k < N * 2 ^ N) : askF N R m (candF N k).1 (candF N k).2 = true := by
  obtain ⟨h1, h5, _, _⟩ := isTab_of ht
  obtain ⟨_, c1, c2, c3, c4⟩ := cand_ok (by omega) (by omega) hk
  unfold askF isDepF isAttr
  rw [ht, hm]
  simp only [Bool.and_self, Bool.true_and, Bool.and_eq_true, decide_eq_true_eq, Int.toNat_natCast]
  exact ⟨⟨⟨h1, ⟨⟨⟨by omega, h5⟩, c1.1⟩, c3⟩⟩, c2.1⟩, c4⟩
theorem Blk.grown {a b : World} {g : Nat} {c : Array Value} {T : TypeId} {row : Option Nat} (h : Blk a g c T) (hg : a.grownBy b row) (hne : some g ≠ row) : Blk b g c T := (hg.block g h.lt hne).trans h
theorem lit_keep {w w' : World} {n : Nat} {c : Array Value} {T : TypeId} (h : Below n (w.alloc (.cells c T)) w') (hn : n = w.heap.size + 1) : w'.heap[w.heap.size]? = some (.cells c T (0, 0)) := (h.block w.heap.size (by omega)).trans (heap_alloc_new w _)
theorem lit_keep_drew {w w' : World} {n : Nat} {c : Array Value} {T : TypeId} (h : Below n (w.alloc (.cells c T)).drew w') (hn : n = w.heap.size + 1) : w'.heap[w.heap.size]? = some (.cells c T (0, 0)) := (h.block w.heap.size (by omega)).trans (heap_alloc_new w _)
theorem own_snocD' {w : World} {base : Nat} {v : Value} {A : List (Int × Int)} {l r : Int} (h : w.ownsRow base 38 2 v (A.length + 1) (dcells A ++ [.int .i64 l, .int .i64 r])) : OwnD w base v (A ++ [(l, r)]) := OwnD.joined (B := [(l, r)]) h
theorem snoc_shape {w : World} {base : Nat} {v : Value} {A : List (Int × Int)} {d : Int × Int} (h : OwnD w base v (A ++ [d])) : ∃ o c, v = .slice o (A.length + 1) c := by
  obtain ⟨o, c, e⟩ := h.shape
  exact ⟨o, c, by rw [e]; simp⟩
set_option maxHeartbeats 3200000 in
theorem c_step (N k : Nat) (oa fo) (cap fc : Nat) (R : List (List Int)) (m t : Int) (F : List (Int × Int)) (B : Nat) (w : World) (hR : RowsAt w oa R) (ht : isTabF N R = true) (hm : modeF m = true) (hk : k < N * 2 ^ N)
    (hF : OwnD w B (.slice fo F.length fc) F) (hB : B ≤ w.heap.size) (hFl : F.length ≤ 160) (ht0 : 0 ≤ t) (ht1 : t ≤ 160) :
    Calls Tryz.prog 45 #[.agg #[.int .i64 N, .slice oa R.length cap, .int .i64 m, .int .i64 k, .slice fo F.length fc, .int .i64 t]] w fun e w' => ∃ fo' fc', e = .returned (.agg #[.int .i64 N, .slice oa R.length cap, .int .i64 m, .int .i64 ((k : Int) + 1), .slice fo' (stepF R m N k (F, t)).1.length fc', .int .i64 (stepF R m N k (F, t)).2]) ∧ OwnD w' B (.slice fo' (stepF R m N k (F, t)).1.length fc') (stepF R m N k (F, t)).1 ∧ Fresh w (.slice fo F.length fc) (.slice fo' (stepF R m N k (F, t)).1.length fc') ∧ Below w.heap.size w w' := by
  obtain ⟨i0, hi, hz0, hz1, hz2⟩ := info_parts info_dep
  obtain ⟨hn1, hn5, _, _⟩ := isTab_of ht
  have hN5 : N ≤ 5 := by omega
  have hN1 : 1 ≤ N := by omega
  have hk160 := count_le hN5
  obtain ⟨_, hst, hco, _, _⟩ := cand_ok hN5 hN1 hk
  have hask := ask_cand (R := R) (m := m) ht hm hk
  have HZ : Hid (stepF R m N k (F, t) = if hasc (candF N k).1 (candF N k).2 || covS F (candF N k).1 (candF N k).2 then (F, t) else (if holdsF R m (candF N k).1 (candF N k).2 then F ++ [((candF N k).1, (candF N k).2)] else F, t + 1)) := rfl
  have HCD : Hid (∀ w', Ans Tryz.prog 54 #[.int .i64 N, .int .i64 k] w' (.agg #[.int .i64 (candF N k).1, .int .i64 (candF N k).2])) := fun w' => c_candidate N k hN5 hN1 hk w'
  generalize hz : stepF R m N k (F, t) = z at *
  clear hz
  generalize (candF N k).1 = x at *
  generalize (candF N k).2 = r at *
  have hr64 : 0 ≤ r ∧ r < 64 := ⟨hco.1, by have := hco.2; omega⟩
  have hR0 := hR
  have hFn : (Value.slice fo F.length fc).ownBlock ≠ some w.heap.size ∧ (Value.slice fo F.length fc).ownBlock ≠ some (w.heap.size + 1) := ⟨hF.not_new (Nat.le_refl _), hF.not_new (Nat.le_succ _)⟩
  have HNC : Hid (fo = none → fc = 0) := hF.nilcap
  have HST : Hid (St x ∧ Co r) := ⟨hst, hco⟩
  have hb := bel2 w (.cells #[.int .i64 N, .slice oa R.length cap, .int .i64 m, .int .i64 k, .slice fo F.length fc, .int .i64 t] 29) (.cells srZ 29)
  have kS := (Blk.new w #[.int .i64 N, .slice oa R.length cap, .int .i64 m, .int .i64 k, .slice fo F.length fc, .int .i64 t] 29).alloc (.cells srZ 29)
  have kZ := Blk.new (w.alloc (.cells #[.int .i64 N, .slice oa R.length cap, .int .i64 m, .int .i64 k, .slice fo F.length fc, .int .i64 t] 29)) srZ 29
  simp only [World.size_alloc] at kZ
  have hF0 := hF.keep hb
  unfold srZ at hb kS kZ hF0
  have s0 := kS.cell 0 (.int .i64 N) rfl
  have s3 := kS.cell 3 (.int .i64 k) rfl
  clear hst hco ht hm hF
  go_enter Tryz.func45, Tryz.ntmps45
  go_wp2_with fail
  refine Calls.mono (HCD.out _) ?_
  rintro e w1 ⟨rfl, hbn⟩
  replace kS := kS.keep hbn
  replace kZ := kZ.keep hbn
  replace hF := hF0.keep hbn
  replace hb := bel_to hb hbn
  have hs1 : w.heap.size + 1 < w1.heap.size := kZ.lt
  clear hbn s0 s3 hF0
  have s3 := kS.cell 3 (.int .i64 k) rfl
  have kS1 := kS.alloc (.cells #[.int .i64 x, .int .i64 r] 38)
  have kZ1 := kZ.alloc (.cells #[.int .i64 x, .int .i64 r] 38)
  have kD1 := Blk.new w1 #[.int .i64 x, .int .i64 r] 38
  have hb1 := hb.alloc hb.size (.cells #[.int .i64 x, .int .i64 r] 38)
  have hF1 := hF.keep ((Below.refl w1.heap.size w1).alloc (Nat.le_refl _) (.cells #[.int .i64 x, .int .i64 r] 38))
  have hFd : (Value.slice fo F.length fc).ownBlock ≠ some w1.heap.size := hF.not_new (Nat.le_refl _)
  have s3' := kS1.cell 3 (.int .i64 k) rfl
  have f3' := kS1.free 3
  have kS2 : Blk _ w.heap.size #[.int .i64 N, .slice oa R.length cap, .int .i64 m, .int .i64 ((k : Int) + 1), .slice fo F.length fc, .int .i64 t] 29 := kS1.set 3 (.int .i64 ((k : Int) + 1))
  have kZ2 := kZ1.far ⟨w.heap.size, 3, none⟩ (.int .i64 ((k : Int) + 1)) (by simp)
  have kD2 := kD1.far ⟨w.heap.size, 3, none⟩ (.int .i64 ((k : Int) + 1)) (by simp; omega)
  have hb2 := Below.setCell (p := (⟨w.heap.size, 3, none⟩ : Addr)) hb1 (Nat.le_refl _) (.int .i64 ((k : Int) + 1))
  have hF2 := hF1.set_ne 3 (.int .i64 ((k : Int) + 1)) hFn.1
  have d0 := kD2.cell 0 (.int .i64 x) rfl
  have d1 := kD2.cell 1 (.int .i64 r) rfl
  have hs2 : w1.heap.size < ((w1.alloc (.cells #[.int .i64 x, .int .i64 r] 38)).setCell ⟨w.heap.size, 3, none⟩ (.int .i64 ((k : Int) + 1))).heap.size := by simp
  clear kS kZ hb kS1 kZ1 kD1 hb1 hF hF1
  go_wp2_with fail
  cases h1 : hasc x r
  · refine Calls.mono (Ans.eqb (c_has _ _ hr64 _) h1) ?_
    rintro e w3 ⟨rfl, hbn⟩
    replace kS2 := kS2.keep hbn
    replace kZ2 := kZ2.keep hbn
    replace kD2 := kD2.keep hbn
    replace hF2 := hF2.keep hbn
    replace hb2 := bel_to hb2 hbn
    clear hbn d0 d1 s3 s3' f3'
    have s4 := kS2.cell 4 (.slice fo F.length fc) rfl
    generalize hd9 : w1.heap.size = d at *
    have hsd : w.heap.size + 1 < d := hs1
    clear hd9 hs2 hs1
    have hFr : F.length ≤ Room := by unfold Room; omega
    go_wp2
    go_loopw [25] (fun i wr => ∃ j : Nat, i = .int .i64 j ∧ j ≤ F.length ∧ covS (F.take j) x r = false ∧ Blk wr w.heap.size #[.int .i64 N, .slice oa R.length cap, .int .i64 m, .int .i64 ((k : Int) + 1), .slice fo F.length fc, .int .i64 t] 29 ∧ Blk wr (w.heap.size + 1) srZ 29 ∧ Blk wr d #[.int .i64 x, .int .i64 r] 38 ∧ OwnD wr B (.slice fo F.length fc) F ∧ Below w.heap.size w wr) (fun i _ => F.length - (intOf i).toNat)
    case atStart => exact ⟨0, rfl, Nat.zero_le _, rfl, kS2, kZ2, kD2, hF2, hb2⟩
    case round =>
      clear kS2 kZ2 kD2 hF2 hb2 s4
      obtain ⟨j, rfl, hj, hcov, kS, kZ, kD, hF, hb⟩ := hrel
      have HC : Hid (covS (F.take j) x r = false) := hcov
      clear hcov
      by_cases hlt : j < F.length
      · obtain ⟨b, off, rfl, hbs, hc⟩ := (hF.deps rfl hFr).at_ (by omega)
        have hc1 := (hc j hlt).1
        have hc2 := (hc j hlt).2
        have HT : Hid (covS (F.take (j + 1)) x r = (covS (F.take j) x r || ((nr F j == r) && ins (nl F j) x))) := covS_take hlt
        have HA : Hid (((nr F j == r) && ins (nl F j) x) = true → covS F x r = true) := covS_at hlt
        clear hc
        generalize nl F j = a at *
        generalize nr F j = q at *
        have hba := (Below.refl wr.heap.size wr).alloc (Nat.le_refl _) (.cells #[.int .i64 a, .int .i64 q] 38)
        replace kS := kS.keep hba
        replace kZ := kZ.keep hba
        replace kD := kD.keep hba
        replace hF := hF.keep hba
        replace hb := bel_to hb hba
        have g0 := box_at wr #[.int .i64 a, .int .i64 q] 38 0 _ rfl
        have g1 := box_at wr #[.int .i64 a, .int .i64 q] 38 1 _ rfl
        have d0 := kD.cell 0 (.int .i64 x) rfl
        have d1 := kD.cell 1 (.int .i64 r) rfl
        clear hba
        cases hq : (q == r)
        · go_wp2
          go_roundw
          case rel => exact ⟨j + 1, by go_num, by omega, by rw [HT.out, HC.out, hq]; rfl, kS, kZ, kD, hF, hb⟩
          case measure => simp [intOf]; omega
        · cases hi3 : ins a x
          · go_wp2_with fail
            refine Calls.mono (Ans.eqb (c_inside _ _ _) hi3) ?_
            rintro e w4 ⟨rfl, hbn⟩
            replace kS := kS.keep hbn
            replace kZ := kZ.keep hbn
            replace kD := kD.keep hbn
            replace hF := hF.keep hbn
            replace hb := bel_to hb hbn
            clear hbn g0 g1 d0 d1
            go_wp2
            go_roundw
            case rel => exact ⟨j + 1, by go_num, by omega, by rw [HT.out, HC.out, hq, hi3]; rfl, kS, kZ, kD, hF, hb⟩
            case measure => simp [intOf]; omega
          · have HV : Hid (z = (F, t)) := by show z = (F, t); rw [HZ.out, h1, HA.out (by rw [hq, hi3]; rfl)]; rfl
            go_wp2_with fail
            refine Calls.mono (Ans.eqb (c_inside _ _ _) hi3) ?_
            rintro e w4 ⟨rfl, hbn⟩
            replace kS := kS.keep hbn
            replace kZ := kZ.keep hbn
            replace hF := hF.keep hbn
            replace hb := bel_to hb hbn
            clear hbn g0 g1 d0 d1 kD
            have s0 := kS.cell 0 (.int .i64 N) rfl
            have s1 := kS.cell 1 (.slice oa R.length cap) rfl
            have s2 := kS.cell 2 (.int .i64 m) rfl
            have s3 := kS.cell 3 (.int .i64 ((k : Int) + 1)) rfl
            have s4 := kS.cell 4 (.slice (some ⟨b, off, none⟩) F.length fc) rfl
            have s5 := kS.cell 5 (.int .i64 t) rfl
            have z0 := kZ.cell 0 (.int .i64 0) rfl
            have z1 := kZ.cell 1 (.slice none 0 0) rfl
            have z2 := kZ.cell 2 (.int .i64 0) rfl
            have z3 := kZ.cell 3 (.int .i64 0) rfl
            have z4 := kZ.cell 4 (.slice none 0 0) rfl
            have z5 := kZ.cell 5 (.int .i64 0) rfl
            have f0 := kZ.free 0
            have f1 := kZ.free 1
            have f2 := kZ.free 2
            have f3 := kZ.free 3
            have f4 := kZ.free 4
            have f5 := kZ.free 5
            go_wp2
            refine bodyPost_ret (v := .agg #[.int .i64 N, .slice oa R.length cap, .int .i64 m, .int .i64 ((k : Int) + 1), .slice (some ⟨b, off, none⟩) F.length fc, .int .i64 t]) (by simp [results, Tryz.results45, go_sem, z0, z1, z2, z3, z4, z5]) rfl ?_
            rw [HV.out]
            exact ⟨_, fc, rfl, OwnD.set6 hF hFn.2 _ _ _ _ _ _, Fresh.self _ _, bel_set6 hb (Nat.le_succ _) _ _ _ _ _ _⟩
      · have hjj : j = F.length := by omega
        have HCF : Hid (covS F x r = false) := by have h := HC.out; rw [hjj, List.take_length] at h; exact h
        clear hjj
        have s5 := kS.cell 5 (.int .i64 t) rfl
        have f5 := kS.free 5
        have kS2 : Blk _ w.heap.size #[.int .i64 N, .slice oa R.length cap, .int .i64 m, .int .i64 ((k : Int) + 1), .slice fo F.length fc, .int .i64 (t + 1)] 29 := kS.set 5 (.int .i64 (t + 1))
        have kZ2 := kZ.far ⟨w.heap.size, 5, none⟩ (.int .i64 (t + 1)) (by simp)
        have kD2 := kD.far ⟨w.heap.size, 5, none⟩ (.int .i64 (t + 1)) (by simp; omega)
        have hb2 := Below.setCell (p := (⟨w.heap.size, 5, none⟩ : Addr)) hb (Nat.le_refl _) (.int .i64 (t + 1))
        have hF2 := hF.set_ne 5 (.int .i64 (t + 1)) hFn.1
        have s0 := kS2.cell 0 (.int .i64 N) rfl
        have s1 := kS2.cell 1 (.slice oa R.length cap) rfl
        have s2 := kS2.cell 2 (.int .i64 m) rfl
        have d0 := kD2.cell 0 (.int .i64 x) rfl
        have d1 := kD2.cell 1 (.int .i64 r) rfl
        clear kS kZ kD hb hF
        go_wp2_with fail
        cases h2 : holdsF R m x r
        · have HV : Hid (z = (F, t + 1)) := by show z = (F, t + 1); rw [HZ.out, h1, HCF.out, h2]; rfl
          refine Calls.mono (Ans.eqb (b' := false) (c_HoldsDep N oa cap R m x r _ (hR0.keep hb2)) (by rw [h2]; simp)) ?_
          rintro e w5 ⟨rfl, hbn⟩
          replace kS2 := kS2.keep hbn
          replace kZ2 := kZ2.keep hbn
          replace hF2 := hF2.keep hbn
          replace hb2 := bel_to hb2 hbn
          clear hbn d0 d1 s0 s1 s2 s5 f5 kD2
          have s0 := kS2.cell 0 (.int .i64 N) rfl
          have s1 := kS2.cell 1 (.slice oa R.length cap) rfl
          have s2 := kS2.cell 2 (.int .i64 m) rfl
          have s3 := kS2.cell 3 (.int .i64 ((k : Int) + 1)) rfl
          have s4 := kS2.cell 4 (.slice fo F.length fc) rfl
          have s5 := kS2.cell 5 (.int .i64 (t + 1)) rfl
          have z0 := kZ2.cell 0 (.int .i64 0) rfl
          have z1 := kZ2.cell 1 (.slice none 0 0) rfl
          have z2 := kZ2.cell 2 (.int .i64 0) rfl
          have z3 := kZ2.cell 3 (.int .i64 0) rfl
          have z4 := kZ2.cell 4 (.slice none 0 0) rfl
          have z5 := kZ2.cell 5 (.int .i64 0) rfl
          have f0 := kZ2.free 0
          have f1 := kZ2.free 1
          have f2 := kZ2.free 2
          have f3 := kZ2.free 3
          have f4 := kZ2.free 4
          have f5 := kZ2.free 5
          go_wp2
          refine bodyPost_ret (v := .agg #[.int .i64 N, .slice oa R.length cap, .int .i64 m, .int .i64 ((k : Int) + 1), .slice fo F.length fc, .int .i64 (t + 1)]) (by simp [results, Tryz.results45, go_sem, z0, z1, z2, z3, z4, z5]) rfl ?_
          rw [HV.out]
          exact ⟨fo, fc, rfl, OwnD.set6 hF2 hFn.2 _ _ _ _ _ _, Fresh.self _ _, bel_set6 hb2 (Nat.le_succ _) _ _ _ _ _ _⟩
        · have HV : Hid (z = (F ++ [(x, r)], t + 1)) := by show z = _; rw [HZ.out, h1, HCF.out, h2]; rfl
          refine Calls.mono (Ans.eqb (b' := true) (c_HoldsDep N oa cap R m x r _ (hR0.keep hb2)) (by rw [h2, hask]; rfl)) ?_
          rintro e w5 ⟨rfl, hbn⟩
          replace kS2 := kS2.keep hbn
          replace kZ2 := kZ2.keep hbn
          replace kD2 := kD2.keep hbn
          replace hF2 := hF2.keep hbn
          replace hb2 := bel_to hb2 hbn
          clear hbn d0 d1 s0 s1 s2 s5 f5
          have s4 := kS2.cell 4 (.slice fo F.length fc) rfl
          have f4 := kS2.free 4
          have d0 := kD2.cell 0 (.int .i64 x) rfl
          have d1 := kD2.cell 1 (.int .i64 r) rfl
          have s4b : (w5.alloc (.cells #[.int .i64 x, .int .i64 r] 38)).drew.cell? ⟨w.heap.size, 4, none⟩ = some (.slice fo F.length fc) := (kS2.alloc _).cell 4 _ rfl
          have hbase : B ≤ w5.heap.size := Nat.le_trans hB hb2.size
          have h63 : F.length + 1 ≤ maxLen := by unfold maxLen; omega
          have h64 : (F.length + 1) * 16 ≤ 140737488355328 := by omega
          go_wp2_with fail
          go_region_law (first
            | (go_simp; refine (c_copyDeps fo fc F _ ((hF2.keep (by first | exact (Below.refl _ _).drew | exact (Below.refl _ _).drew.alloc (Nat.le_refl _) _)).deps rfl hFr) HNC.out).mono ?_; rintro e w6 ⟨v6, rfl, hO, hbn⟩; have hb56 := bel_to (w := w5) (by first | exact (Below.refl _ _).drew | exact (Below.refl _ _).drew.alloc (Nat.le_refl _) _) hbn; replace hO := hO.based (show w5.heap.size ≤ _ by simp); have kS6 := kS2.keep hb56; have kZ6 := kZ2.keep hb56; have kD6 := kD2.keep hb56; have hb6 := bel_to hb2 hb56; have d0 := kD6.cell 0 (.int .i64 x) rfl; have d1 := kD6.cell 1 (.int .i64 r) rfl)
            | (refine step_append_own _ (by rfl) _ _ 27 (by rfl) w5.heap.size 38 i0 (.agg #[.int .i64 0, .int .i64 0]) 2 16 Tryz.underlying27 hi hz0 hz1 hz2 rfl (by decide) v6 _ _ (by rfl) (World.ownsRow.alloc hO _) _ 1 1 [.int .i64 x, .int .i64 r] (by rfl) rfl (World.news_of_block (cs := #[.int .i64 x, .int .i64 r]) (t := 38) (fr := (0, 0)) (heap_alloc_new _ _)) (by intro u hu; simp at hu; rcases hu with rfl | rfl <;> rfl) (show _ from h63) (show _ from h64) (by have := hb56.size; simp; omega) ?_; intro v7 w7 hown hgrow; have hne9 := fun (g : Nat) (hg : g < w5.heap.size) => (show some g ≠ v6.ownBlock from fun e => by have := (World.ownsRow.lt hO g e.symm).1; omega); have kS7 := (kS6.alloc _).grown hgrow (hne9 _ kS2.lt); have kZ7 := (kZ6.alloc _).grown hgrow (hne9 _ kZ2.lt); have hb7 := (hb6.alloc hb6.size _).grown hgrow (by have := hb6.size; simp; omega) (fun g hg => Nat.le_trans hb2.size (World.ownsRow.lt hO g hg).1); have hO7 := own_snocD' hown; clear hown hgrow; obtain ⟨o7, c7, rfl⟩ := snoc_shape hO7; have s4 := kS7.cell 4 (.slice fo F.length fc) rfl; have f4 := kS7.free 4)
            | (refine step_append_own _ (by rfl) _ _ 27 (by rfl) w5.heap.size 38 i0 (.agg #[.int .i64 0, .int .i64 0]) 2 16 Tryz.underlying27 hi hz0 hz1 hz2 rfl (by decide) v6 _ _ (by rfl) hO _ 1 1 [.int .i64 x, .int .i64 r] (by rfl) rfl (World.news_of_block (cs := #[.int .i64 x, .int .i64 r]) (t := 38) (fr := (0, 0)) (lit_keep_drew hbn (by simp))) (by intro u hu; simp at hu; rcases hu with rfl | rfl <;> rfl) (show _ from h63) (show _ from h64) hb56.size ?_; intro v7 w7 hown hgrow; have hne9 := fun (g : Nat) (hg : g < w5.heap.size) => (show some g ≠ v6.ownBlock from fun e => by have := (World.ownsRow.lt hO g e.symm).1; omega); have kS7 := (kS6).grown hgrow (hne9 _ kS2.lt); have kZ7 := (kZ6).grown hgrow (hne9 _ kZ2.lt); have hb7 := (hb6).grown hgrow (by have := hb6.size; simp; omega) (fun g hg => Nat.le_trans hb2.size (World.ownsRow.lt hO g hg).1); have hO7 := own_snocD' hown; clear hown hgrow; obtain ⟨o7, c7, rfl⟩ := snoc_shape hO7; have s4 := kS7.cell 4 (.slice fo F.length fc) rfl; have f4 := kS7.free 4)
            | fail)
          all_goals
            have kS8 : Blk _ w.heap.size #[.int .i64 N, .slice oa R.length cap, .int .i64 m, .int .i64 ((k : Int) + 1), .slice o7 (F.length + 1) c7, .int .i64 (t + 1)] 29 := kS7.set 4 (.slice o7 (F.length + 1) c7)
            have kZ8 := kZ7.far ⟨w.heap.size, 4, none⟩ (.slice o7 (F.length + 1) c7) (by simp)
            have hb8 := Below.setCell (p := (⟨w.heap.size, 4, none⟩ : Addr)) hb7 (Nat.le_refl _) (.slice o7 (F.length + 1) c7)
            have hn7 : ∀ g, g < w5.heap.size → (Value.slice o7 (F.length + 1) c7).ownBlock ≠ some g := fun g hg e => by have := (World.ownsRow.lt hO7 g e).1; omega
            have hs5 := kS2.lt
            have hz5 := kZ2.lt
            have hO8 := hO7.set_ne 4 (.slice o7 (F.length + 1) c7) (hn7 _ hs5)
            have s0 := kS8.cell 0 (.int .i64 N) rfl
            have s1 := kS8.cell 1 (.slice oa R.length cap) rfl
            have s2 := kS8.cell 2 (.int .i64 m) rfl
            have s3 := kS8.cell 3 (.int .i64 ((k : Int) + 1)) rfl
            have s4 := kS8.cell 4 (.slice o7 (F.length + 1) c7) rfl
            have s5 := kS8.cell 5 (.int .i64 (t + 1)) rfl
            have z0 := kZ8.cell 0 (.int .i64 0) rfl
            have z1 := kZ8.cell 1 (.slice none 0 0) rfl
            have z2 := kZ8.cell 2 (.int .i64 0) rfl
            have z3 := kZ8.cell 3 (.int .i64 0) rfl
            have z4 := kZ8.cell 4 (.slice none 0 0) rfl
            have z5 := kZ8.cell 5 (.int .i64 0) rfl
            have f0 := kZ8.free 0
            have f1 := kZ8.free 1
            have f2 := kZ8.free 2
            have f3 := kZ8.free 3
            have f4 := kZ8.free 4
            have f5 := kZ8.free 5
            go_wp2
            refine bodyPost_ret (v := .agg #[.int .i64 N, .slice oa R.length cap, .int .i64 m, .int .i64 ((k : Int) + 1), .slice o7 (F.length + 1) c7, .int .i64 (t + 1)]) (by simp [results, Tryz.results45, go_sem, z0, z1, z2, z3, z4, z5]) rfl ?_
            rw [HV.out]
            have hl9 : (F ++ [(x, r)]).length = F.length + 1 := by simp
            refine ⟨o7, c7, ?_, ?_, ?_, bel_set6 hb8 (Nat.le_succ _) _ _ _ _ _ _⟩
            · show Ending.returned _ = Ending.returned (.agg #[.int .i64 N, .slice oa R.length cap, .int .i64 m, .int .i64 ((k : Int) + 1), .slice o7 (F ++ [(x, r)]).length c7, .int .i64 (t + 1)])
              rw [hl9]
            · show OwnD _ B (.slice o7 (F ++ [(x, r)]).length c7) (F ++ [(x, r)])
              rw [hl9]
              exact OwnD.set6 (hO8.based hbase) (hn7 _ hz5) _ _ _ _ _ _
            · show Fresh w _ (.slice o7 (F ++ [(x, r)]).length c7)
              rw [hl9]
              exact .inr (fun g hg => Nat.le_trans hb2.size (World.ownsRow.lt hO7 g hg).1)
  · refine Calls.mono (Ans.eqb (c_has _ _ hr64 _) h1) ?_
    rintro e w3 ⟨rfl, hbn⟩
    replace kS2 := kS2.keep hbn
    replace kZ2 := kZ2.keep hbn
    replace hF2 := hF2.keep hbn
    replace hb2 := bel_to hb2 hbn
    have HV : Hid (z = (F, t)) := by show z = (F, t); rw [HZ.out, h1]; rfl
    clear hbn d0 d1 s3 s3' f3' kD2
    have s0 := kS2.cell 0 (.int .i64 N) rfl
    have s1 := kS2.cell 1 (.slice oa R.length cap) rfl
    have s2 := kS2.cell 2 (.int .i64 m) rfl
    have s3 := kS2.cell 3 (.int .i64 ((k : Int) + 1)) rfl
    have s4 := kS2.cell 4 (.slice fo F.length fc) rfl
    have s5 := kS2.cell 5 (.int .i64 t) rfl
    have z0 := kZ2.cell 0 (.int .i64 0) rfl
    have z1 := kZ2.cell 1 (.slice none 0 0) rfl
    have z2 := kZ2.cell 2 (.int .i64 0) rfl
    have z3 := kZ2.cell 3 (.int .i64 0) rfl
    have z4 := kZ2.cell 4 (.slice none 0 0) rfl
    have z5 := kZ2.cell 5 (.int .i64 0) rfl
    have f0 := kZ2.free 0
    have f1 := kZ2.free 1
    have f2 := kZ2.free 2
    have f3 := kZ2.free 3
    have f4 := kZ2.free 4
    have f5 := kZ2.free 5
    go_wp2
    refine bodyPost_ret (v := .agg #[.int .i64 N, .slice oa R.length cap, .int .i64 m, .int .i64 ((k : Int) + 1), .slice fo F.length fc, .int .i64 t]) (by simp [results, Tryz.results45, go_sem, z0, z1, z2, z3, z4, z5]) rfl ?_
    rw [HV.out]
    exact ⟨fo, fc, rfl, OwnD.set6 hF2 hFn.2 _ _ _ _ _ _, Fresh.self _ _, bel_set6 hb2 (Nat.le_succ _) _ _ _ _ _ _⟩
end Go.Proofs.YtcenndlbhgfdfaaGreat
namespace Go.Proofs.YtcenndlbhgfdfaaGreat
open Go.RowKit
set_option linter.unusedVariables false
set_option maxRecDepth 100000

/-- Rows, each of which is nil without capacity, if it is nil. -/
def RowsC (w : World) (oa : Option Addr) (R : List (List Int)) : Prop := RowsAt w oa R ∧ ∀ (b off : Nat), oa = some ⟨b, off, none⟩ → ∀ k, k < R.length → ∀ o n c, w.cell? ⟨b, off + k, none⟩ = some (.slice o n c) → o = none → c = 0
theorem RowsC.keep {w w' : World} {oa : Option Addr} {R : List (List Int)} (h : RowsC w oa R) (hb : Below w.heap.size w w') : RowsC w' oa R :=
  ⟨h.1.keep hb, fun b off e k hk o n c hc => by
    obtain ⟨b', off', e', hlt, _⟩ := h.1.at_ (by omega)
    rw [e] at e'
    simp only [Option.some.injEq, Addr.mk.injEq, and_true] at e'
    obtain ⟨rfl, rfl⟩ := e'
    exact h.2 b off e k hk o n c (by rw [← hb.cell (p := ⟨b, off + k, none⟩) hlt]; exact hc)⟩
theorem OwnI.nilcap {w : World} {B n c : Nat} {oa : Option Addr} {L : List Int} (h : OwnI w B (.slice oa n c) L) : oa = none → c = 0 := by
  intro e
  subst e
  rcases h.2 with ⟨hv, _⟩ | ⟨g, c', cur, hv, _⟩
  · cases hv; rfl
  · cases hv
theorem OwnRows.readC {w : World} {B : Nat} {oa : Option Addr} {n c : Nat} {xs : List Value} {R : List (List Int)} (h : OwnRows w B (.slice oa n c) xs R) (hR : R.length ≤ Room) (hr : ∀ j, j < R.length → (row R j).length ≤ Room) : RowsC w oa R := by
  refine ⟨h.read hR hr, fun b off e k hk o n' c' hc ho => ?_⟩
  obtain ⟨g, e', _, hlt, hcell⟩ := h.at_ (by omega)
  rw [e'] at e
  simp only [Option.some.injEq, Addr.mk.injEq, and_true] at e
  obtain ⟨rfl, rfl⟩ := e
  obtain ⟨o2, c2, q1, q2, _⟩ := h.rows k hk
  have := hcell k hk
  rw [Nat.zero_add] at hc
  rw [hc, q1] at this
  simp only [Option.some.injEq, Value.slice.injEq] at this
  obtain ⟨rfl, _, rfl⟩ := this
  exact q2.nilcap ho
theorem take_row {R : List (List Int)} {k : Nat} (h : k < R.length) : R.take (k + 1) = R.take k ++ [row R k] := by rw [List.take_add_one, row_eq h]; rfl
set_option maxHeartbeats 800000 in
theorem c_copyRows (oa) (ca : Nat) (R : List (List Int)) (w : World) (hR : RowsC w oa R) :
    Calls Tryz.prog 96 #[.slice oa R.length ca] w fun e w' => ∃ o c xs, e = .returned (.slice o R.length c) ∧ OwnRows w' w.heap.size (.slice o R.length c) xs R ∧ Below w.heap.size w w' := by
  obtain ⟨j0, hj, hy0, hy1, hy2⟩ := info_parts info_ints
  have hn : R.length ≤ 1073741824 := hR.1.len
  have hb := (Below.refl w.heap.size w).alloc (Nat.le_refl _) (.cells #[] 50)
  have hC := OwnRows.empty w w.heap.size (Nat.le_refl _)
  have HR : Hid (RowsC w oa R) := hR
  clear hR
  go_enter Tryz.func96, Tryz.ntmps96
  go_wp2
  go_loopw [3, 9] (fun v i wr => ∃ (k : Nat) (xs : List Value), i = .int .i64 k ∧ k ≤ R.length ∧ OwnRows wr w.heap.size v xs (R.take k) ∧ Below w.heap.size w wr) (fun _ i _ => R.length - (intOf i).toNat)
  case atStart => exact ⟨0, [], rfl, Nat.zero_le _, by simpa using hC, hb⟩
  case round =>
    clear hC hb
    obtain ⟨k, xs, rfl, hk, hC, hb⟩ := hrel
    by_cases hlt : k < R.length
    · obtain ⟨b, off, rfl, hbs, hc⟩ := HR.out.1.at_ (by omega)
      obtain ⟨o, c, h1, r1⟩ := hc k hlt
      have hnil := HR.out.2 b off rfl k hlt o _ c h1
      have HT : Hid (R.take (k + 1) = R.take k ++ [row R k]) := take_row hlt
      have hc1 := cell_keep h1 hb
      have hxl := hC.len
      rw [List.length_take] at hxl
      have hxs : xs.length ≤ R.length := by omega
      clear hxl hc h1
      generalize row R k = L at *
      generalize R.take k = P at *
      go_wp2_with (first | (go_at_call 116; refine (c_copyInts _ _ _ _ (r1.keep hb) hnil).mono ?_; rintro e w1 ⟨v1, rfl, hI, hbn⟩; have ap := hC.fresh hI; replace hC := hC.keep hbn; replace hI := hI.based hb.size; replace hb := bel_to hb hbn; obtain ⟨o1, c1, rfl⟩ := hI.shape; clear hbn) | (at_builtin; refine wpList_append_fresh rfl _ _ 24 rfl w.heap.size 50 j0 (.slice none 0 0) 1 24 Tryz.underlying24 hj hy0 hy1 hy2 rfl (by decide) _ _ _ rfl (World.ownsRow.alloc hC.outer _) _ 1 1 [.slice o1 L.length c1] rfl rfl (by intro j u hj; match j, hj with | 0, hj => simp at hj; subst hj; simp [Addr.add]) (by intro u hu; simp at hu; subst hu; rfl) (by unfold maxLen; omega) (by omega) (by have := hb.size; simp; omega) ?_; intro v' w2 hown hgrow hfr; replace hb := (hb.alloc hb.size _).grown hgrow (by have := hb.size; simp; omega) (fun g hg => (World.ownsRow.lt hC.outer g hg).1); have hC2 := OwnRows.snoc hC hI ap hown hgrow hfr; clear hown hgrow hfr) | fail)
      go_roundw
      case rel => exact ⟨k + 1, _, by go_num, by omega, by rw [HT.out]; exact hC2, hb⟩
      case measure => simp [intOf]; omega
    · have hkk : k = R.length := by omega
      have HE : Hid (R.take k = R) := by show R.take k = R; rw [hkk, List.take_length]
      clear hkk
      rw [HE.out] at hC
      obtain ⟨o, c, rfl⟩ := hC.shape
      go_wp2
      go_ret
      exact ⟨_, _, _, rfl, hC, hb⟩
set_option maxHeartbeats 800000 in
theorem c_copyTable (n : Int) (oa) (ca : Nat) (R : List (List Int)) (w : World) (hR : RowsC w oa R) :
    Calls Tryz.prog 62 #[.agg #[.int .i64 n, .slice oa R.length ca]] w fun e w' => ∃ o c xs, e = .returned (.agg #[.int .i64 n, .slice o R.length c]) ∧ OwnRows w' w.heap.size (.slice o R.length c) xs R ∧ Below w.heap.size w w' := by
  have hb := bel2 w (.cells #[.int .i64 n, .slice oa R.length ca] 26) (.cells #[.int .i64 0, .slice none 0 0] 26)
  have a0 := two_a w #[.int .i64 n, .slice oa R.length ca] 26 #[.int .i64 0, .slice none 0 0] 26 0 _ rfl
  have a1 := two_a w #[.int .i64 n, .slice oa R.length ca] 26 #[.int .i64 0, .slice none 0 0] 26 1 _ rfl
  have kA := (Blk.new w #[.int .i64 n, .slice oa R.length ca] 26).alloc (.cells #[.int .i64 0, .slice none 0 0] 26)
  have kZ := Blk.new (w.alloc (.cells #[.int .i64 n, .slice oa R.length ca] 26)) #[.int .i64 0, .slice none 0 0] 26
  simp only [World.size_alloc] at kZ
  go_enter Tryz.func62, Tryz.ntmps62
  go_wp2_with fail
  go_region_with ((refine (c_copyRows oa ca R _ (hR.keep hb.drew)).mono ?_; rintro e w1 ⟨o, c, xs, rfl, hN, hbn⟩; have kA1 := kA.drew.keep hbn; have kZ1 := kZ.drew.keep hbn; have a0' := kA1.cell 0 (.int .i64 n) rfl; have z0 := kZ1.cell 0 (.int .i64 0) rfl; have z1 := kZ1.cell 1 (.slice none 0 0) rfl; have f0 := kZ1.free 0; have f1 := kZ1.free 1; have hb1 := bel_to hb.drew hbn; clear hbn))
  all_goals
    go_wp2
    have x1 := (hN.far_set (g := w.heap.size + 1) 0 (.int .i64 n) (by simp)).far_set (g := w.heap.size + 1) 1 (.slice o R.length c) (by simp)
    exact bodyPost_ret (v := .agg #[.int .i64 n, .slice o R.length c]) (by simp [results, Tryz.results62, go_sem, z0, z1]) rfl ⟨o, c, xs, rfl, x1.based (by simp; omega), Below.setCell (p := (⟨w.heap.size + 1, 1, none⟩ : Addr)) (Below.setCell (p := (⟨w.heap.size + 1, 0, none⟩ : Addr)) hb1 (Nat.le_succ _) _) (Nat.le_succ _) _⟩
end Go.Proofs.YtcenndlbhgfdfaaGreat
namespace Go.Proofs.YtcenndlbhgfdfaaGreat
open Go.RowKit
set_option linter.unusedVariables false
set_option maxRecDepth 100000

set_option maxHeartbeats 800000 in
theorem c_NewSearch_no (n : Int) (oa) (ca : Nat) (R : List (List Int)) (m : Int) (w : World) (hR : RowsAt w oa R) (h : (isTabF n R && modeF m) = false) :
    Ans Tryz.prog 22 #[.agg #[.int .i64 n, .slice oa R.length ca], .int .i64 m] w (.tuple #[.agg #[.int .i64 0, .slice none 0 0, .int .i64 0, .int .i64 0, .slice none 0 0, .int .i64 0], .bool false]) := by
  unfold Ans
  have hb := bel2 w (.cells #[.int .i64 n, .slice oa R.length ca] 26) (.cells #[.int .i64 0, .slice none 0 0, .int .i64 0, .int .i64 0, .slice none 0 0, .int .i64 0] 29)
  have kA := (Blk.new w #[.int .i64 n, .slice oa R.length ca] 26).alloc (.cells #[.int .i64 0, .slice none 0 0, .int .i64 0, .int .i64 0, .slice none 0 0, .int .i64 0] 29)
  have kZ := Blk.new (w.alloc (.cells #[.int .i64 n, .slice oa R.length ca] 26)) #[.int .i64 0, .slice none 0 0, .int .i64 0, .int .i64 0, .slice none 0 0, .int .i64 0] 29
  simp only [World.size_alloc] at kZ
  have a0 := kA.cell 0 (.int .i64 n) rfl
  have a1 := kA.cell 1 (.slice oa R.length ca) rfl
  cases ht : isTabF n R
  · go_enter Tryz.func22, Tryz.ntmps22
    go_wp2_with fail
    refine Calls.mono (Ans.eqb (c_IsTable n _ _ R _ (hR.keep hb)) ht) ?_
    rintro e w1 ⟨rfl, hbn⟩
    replace kZ := kZ.keep hbn
    replace hb := bel_to hb hbn
    clear hbn a0 a1 kA
    have z0 := kZ.cell 0 (.int .i64 0) rfl
    have z1 := kZ.cell 1 (.slice none 0 0) rfl
    have z2 := kZ.cell 2 (.int .i64 0) rfl
    have z3 := kZ.cell 3 (.int .i64 0) rfl
    have z4 := kZ.cell 4 (.slice none 0 0) rfl
    have z5 := kZ.cell 5 (.int .i64 0) rfl
    have f0 := kZ.free 0
    have f1 := kZ.free 1
    have f2 := kZ.free 2
    have f3 := kZ.free 3
    have f4 := kZ.free 4
    have f5 := kZ.free 5
    go_wp2
    exact bodyPost_ret (v := .tuple #[.agg #[.int .i64 0, .slice none 0 0, .int .i64 0, .int .i64 0, .slice none 0 0, .int .i64 0], .bool false]) (by simp [results, Tryz.results22, go_sem, z0, z1, z2, z3, z4, z5]) rfl ⟨rfl, bel_set6 hb (Nat.le_succ _) _ _ _ _ _ _⟩
  · have hm : modeF m = false := by rw [ht] at h; simpa using h
    go_enter Tryz.func22, Tryz.ntmps22
    go_wp2_with fail
    refine Calls.mono (Ans.eqb (c_IsTable n _ _ R _ (hR.keep hb)) ht) ?_
    rintro e w1 ⟨rfl, hbn⟩
    replace kZ := kZ.keep hbn
    replace hb := bel_to hb hbn
    clear hbn a0 a1 kA
    go_wp2_with fail
    refine Calls.mono (Ans.eqb (c_isMode _ _) hm) ?_
    rintro e w2 ⟨rfl, hbn⟩
    replace kZ := kZ.keep hbn
    replace hb := bel_to hb hbn
    clear hbn
    have z0 := kZ.cell 0 (.int .i64 0) rfl
    have z1 := kZ.cell 1 (.slice none 0 0) rfl
    have z2 := kZ.cell 2 (.int .i64 0) rfl
    have z3 := kZ.cell 3 (.int .i64 0) rfl
    have z4 := kZ.cell 4 (.slice none 0 0) rfl
    have z5 := kZ.cell 5 (.int .i64 0) rfl
    have f0 := kZ.free 0
    have f1 := kZ.free 1
    have f2 := kZ.free 2
    have f3 := kZ.free 3
    have f4 := kZ.free 4
    have f5 := kZ.free 5
    go_wp2
    exact bodyPost_ret (v := .tuple #[.agg #[.int .i64 0, .slice none 0 0, .int .i64 0, .int .i64 0, .slice none 0 0, .int .i64 0], .bool false]) (by simp [results, Tryz.results22, go_sem, z0, z1, z2, z3, z4, z5]) rfl ⟨rfl, bel_set6 hb (Nat.le_succ _) _ _ _ _ _ _⟩
theorem OwnRows.far6 {w : World} {B : Nat} {v : Value} {xs : List Value} {R : List (List Int)} (h : OwnRows w B v xs R) {k : Nat} (hk : k < B) (b0 b1 b2 b3 b4 b5 : Value) : OwnRows (set6 w k b0 b1 b2 b3 b4 b5) B v xs R :=
  (((((h.far_set 0 b0 hk).far_set 1 b1 hk).far_set 2 b2 hk).far_set 3 b3 hk).far_set 4 b4 hk).far_set 5 b5 hk
set_option maxHeartbeats 800000 in
theorem c_NewSearch_ok (n : Int) (oa) (ca : Nat) (R : List (List Int)) (m : Int) (w : World) (hR : RowsC w oa R) (h : (isTabF n R && modeF m) = true) :
    Calls Tryz.prog 22 #[.agg #[.int .i64 n, .slice oa R.length ca], .int .i64 m] w fun e w' => ∃ o c xs, e = .returned (.tuple #[.agg #[.int .i64 n, .slice o R.length c, .int .i64 m, .int .i64 0, .slice none 0 0, .int .i64 0], .bool true]) ∧ OwnRows w' w.heap.size (.slice o R.length c) xs R ∧ Below w.heap.size w w' := by
  have hb := bel2 w (.cells #[.int .i64 n, .slice oa R.length ca] 26) (.cells #[.int .i64 0, .slice none 0 0, .int .i64 0, .int .i64 0, .slice none 0 0, .int .i64 0] 29)
  have kA := (Blk.new w #[.int .i64 n, .slice oa R.length ca] 26).alloc (.cells #[.int .i64 0, .slice none 0 0, .int .i64 0, .int .i64 0, .slice none 0 0, .int .i64 0] 29)
  have kZ := Blk.new (w.alloc (.cells #[.int .i64 n, .slice oa R.length ca] 26)) #[.int .i64 0, .slice none 0 0, .int .i64 0, .int .i64 0, .slice none 0 0, .int .i64 0] 29
  simp only [World.size_alloc] at kZ
  have a0 := kA.cell 0 (.int .i64 n) rfl
  have a1 := kA.cell 1 (.slice oa R.length ca) rfl
  simp only [Bool.and_eq_true] at h
  obtain ⟨ht, hm⟩ := h
  go_enter Tryz.func22, Tryz.ntmps22
  go_wp2_with fail
  refine Calls.mono (Ans.eqb (c_IsTable n _ _ R _ (hR.1.keep hb)) ht) ?_
  rintro e w1 ⟨rfl, hbn⟩
  replace kZ := kZ.keep hbn
  replace kA := kA.keep hbn
  replace hb := bel_to hb hbn
  clear hbn a0 a1
  go_wp2_with fail
  refine Calls.mono (Ans.eqb (c_isMode _ _) hm) ?_
  rintro e w2 ⟨rfl, hbn⟩
  replace kZ := kZ.keep hbn
  replace kA := kA.keep hbn
  replace hb := bel_to hb hbn
  have a0 := kA.cell 0 (.int .i64 n) rfl
  have a1 := kA.cell 1 (.slice oa R.length ca) rfl
  have hsz := kZ.lt
  clear hbn
  go_wp2_with fail
  refine (c_copyTable n _ _ R _ (hR.keep hb)).mono ?_
  rintro e w3 ⟨o, c, xs, rfl, hN, hbn⟩
  replace kZ := kZ.keep hbn
  replace hb := bel_to hb hbn
  clear hbn a0 a1 kA
  have z0 := kZ.cell 0 (.int .i64 0) rfl
  have z1 := kZ.cell 1 (.slice none 0 0) rfl
  have z2 := kZ.cell 2 (.int .i64 0) rfl
  have z3 := kZ.cell 3 (.int .i64 0) rfl
  have z4 := kZ.cell 4 (.slice none 0 0) rfl
  have z5 := kZ.cell 5 (.int .i64 0) rfl
  have f0 := kZ.free 0
  have f1 := kZ.free 1
  have f2 := kZ.free 2
  have f3 := kZ.free 3
  have f4 := kZ.free 4
  have f5 := kZ.free 5
  go_wp2
  exact bodyPost_ret (v := .tuple #[.agg #[.int .i64 n, .slice o R.length c, .int .i64 m, .int .i64 0, .slice none 0 0, .int .i64 0], .bool true]) (by simp [results, Tryz.results22, go_sem, z0, z1, z2, z3, z4, z5]) rfl ⟨o, c, xs, rfl, (hN.far6 hsz _ _ _ _ _ _).based (by omega), bel_set6 hb (Nat.le_succ _) _ _ _ _ _ _⟩

def cntF (n : Int) : Int := ((n.toNat * 2 ^ n.toNat : Nat) : Int)
def isSrF (A : Sr) : Bool := ((isTabF A.n A.R && modeF A.m) && (decide (0 ≤ A.a) && decide (A.a ≤ cntF A.n))) && (decide ((repF A.R A.m A.n.toNat A.a.toNat).2 = A.t) && decide ((repF A.R A.m A.n.toNat A.a.toNat).1 = A.F))
def atOf (w : World) (b : Nat) : Nat := match w.cell? ⟨b, 3, none⟩ with | some (.int _ k) => k.toNat | _ => 0
theorem Blk.far6 {w : World} {g : Nat} {c : Array Value} {T : TypeId} (h : Blk w g c T) {k : Nat} (hk : g ≠ k) (b0 b1 b2 b3 b4 b5 : Value) : Blk (set6 w k b0 b1 b2 b3 b4 b5) g c T :=
  (((((h.far ⟨k, 0, none⟩ b0 hk).far ⟨k, 1, none⟩ b1 hk).far ⟨k, 2, none⟩ b2 hk).far ⟨k, 3, none⟩ b3 hk).far ⟨k, 4, none⟩ b4 hk).far ⟨k, 5, none⟩ b5 hk
theorem Blk.set6 {w : World} {g : Nat} {x0 x1 x2 x3 x4 x5 : Value} {T : TypeId} (h : Blk w g #[x0, x1, x2, x3, x4, x5] T) (b0 b1 b2 b3 b4 b5 : Value) : Blk (set6 w g b0 b1 b2 b3 b4 b5) g #[b0, b1, b2, b3, b4, b5] T :=
  (((((h.set 0 b0).set 1 b1).set 2 b2).set 3 b3).set 4 b4).set 5 b5
theorem atOf_eq {w : World} {b k : Nat} (h : w.cell? ⟨b, 3, none⟩ = some (.int .i64 (k : Int))) : atOf w b = k := by unfold atOf; rw [h]; rfl
set_option maxHeartbeats 3200000 in
theorem c_IsSearch (A : Sr) (oa fa) (ca fca : Nat) (w : World) (hA : RowsC w oa A.R) (hC : DepsAt w fa A.F) :
    Ans Tryz.prog 10 #[.agg #[.int .i64 A.n, .slice oa A.R.length ca, .int .i64 A.m, .int .i64 A.a, .slice fa A.F.length fca, .int .i64 A.t]] w (.bool (isSrF A)) := by
  unfold Ans
  obtain ⟨n, R, m, a, F, t⟩ := A
  dsimp only at hA hC ⊢
  have hb := (Below.refl w.heap.size w).alloc (Nat.le_refl _) (.cells #[.int .i64 n, .slice oa R.length ca, .int .i64 m, .int .i64 a, .slice fa F.length fca, .int .i64 t] 29)
  have kS := Blk.new w #[.int .i64 n, .slice oa R.length ca, .int .i64 m, .int .i64 a, .slice fa F.length fca, .int .i64 t] 29
  cases hok : (isTabF n R && modeF m)
  · have HM : Hid (isSrF ⟨n, R, m, a, F, t⟩ = false) := by show isSrF ⟨n, R, m, a, F, t⟩ = false; unfold isSrF; dsimp only; rw [hok]; rfl
    have s0 := kS.cell 0 (.int .i64 n) rfl
    have s1 := kS.cell 1 (.slice oa R.length ca) rfl
    have s2 := kS.cell 2 (.int .i64 m) rfl
    have s3 := kS.cell 3 (.int .i64 a) rfl
    have s4 := kS.cell 4 (.slice fa F.length fca) rfl
    have s5 := kS.cell 5 (.int .i64 t) rfl
    go_enter Tryz.func10, Tryz.ntmps10
    go_wp2_with fail
    refine Calls.mono (c_NewSearch_no n _ _ R m _ (hA.1.keep hb) hok) ?_
    rintro e w1 ⟨rfl, hbn⟩
    replace hb := bel_to hb hbn
    clear hbn s0 s1 s2 s3 s4 s5 kS
    replace hb := hb.alloc hb.size (.cells #[.int .i64 0, .slice none 0 0, .int .i64 0, .int .i64 0, .slice none 0 0, .int .i64 0] 29)
    go_wp2_with fail
    (refine wp_region_after (by kernel_rfl) (by kernel_rfl) ?_; (repeat (go_big_quiet_step (fail))); refine wpQuiet_nil ?_; rintro _ ⟨⟨w1, hbn⟩, rfl⟩; (try simp only [After.w]); replace hb := bel_to (w := w) (by first | exact hb | exact hb.alloc hb.size _ | exact (hb.alloc hb.size _).alloc (Nat.le_trans hb.size (by simp)) _ | exact hb.setCell (by simp [hb.size]) _) hbn; clear hbn)
    go_wp2
    go_ret
    exact ⟨ret_bool HM.out.symm, hb⟩
  have hok' := hok
  simp only [Bool.and_eq_true] at hok'
  obtain ⟨ht, hm⟩ := hok'
  obtain ⟨hn1, hn5, _, hlen⟩ := isTab_of ht
  have HLR : Hid (∀ j, j < R.length → (row R j).length ≤ Room) := fun j hj => by have := hlen j hj; unfold Room; omega
  clear hlen
  obtain ⟨N, rfl⟩ := Int.eq_ofNat_of_zero_le (show 0 ≤ n by omega)
  have hN5 : N ≤ 5 := by omega
  have hN1 : 1 ≤ N := by omega
  have hc160 := count_le hN5
  have HCN : Hid (cntF N = ((N * 2 ^ N : Nat) : Int)) := by show cntF N = _; unfold cntF; rw [Int.toNat_natCast]
  have HCO : Hid (∀ w', Ans Tryz.prog 44 #[.int .i64 N] w' (.int .i64 ((N * 2 ^ N : Nat) : Int))) := fun w' => c_candidatesOf N hN5 w'
  have HK : Hid (∀ k, k ≤ N * 2 ^ N → (∀ o ∈ (repF R m N k).1, St o.1 ∧ Co o.2) ∧ (repF R m N k).1.length ≤ k ∧ 0 ≤ (repF R m N k).2 ∧ (repF R m N k).2 ≤ k) := fun k hk => rep_ok hN5 hN1 k hk
  have HS : Hid (∀ k, repF R m N (k + 1) = stepF R m N k (repF R m N k)) := fun k => rfl
  have HST : Hid (isTabF N R = true ∧ modeF m = true) := ⟨ht, hm⟩
  have HSF : Hid (∀ (o : Option Addr) (c k : Nat) (fo : Option Addr) (fc : Nat) (g : Int) (G : List (Int × Int)) (B : Nat) (w' : World), RowsAt w' o R → k < N * 2 ^ N → OwnD w' B (.slice fo G.length fc) G → B ≤ w'.heap.size → G.length ≤ 160 → 0 ≤ g → g ≤ 160 →
      Calls Tryz.prog 45 #[.agg #[.int .i64 N, .slice o R.length c, .int .i64 m, .int .i64 k, .slice fo G.length fc, .int .i64 g]] w' fun e w'' => ∃ fo' fc', e = .returned (.agg #[.int .i64 N, .slice o R.length c, .int .i64 m, .int .i64 ((k : Int) + 1), .slice fo' (stepF R m N k (G, g)).1.length fc', .int .i64 (stepF R m N k (G, g)).2]) ∧ OwnD w'' B (.slice fo' (stepF R m N k (G, g)).1.length fc') (stepF R m N k (G, g)).1 ∧ Fresh w' (.slice fo G.length fc) (.slice fo' (stepF R m N k (G, g)).1.length fc') ∧ Below w'.heap.size w' w'') :=
    fun o c k fo fc g G B w' h1 h2 h3 h4 h5 h6 h7 => c_step N k o fo c fc R m g G B w' h1 ht hm h2 h3 h4 h5 h6 h7
  generalize hcnt : N * 2 ^ N = M at *
  have s0 := kS.cell 0 (.int .i64 N) rfl
  have s1 := kS.cell 1 (.slice oa R.length ca) rfl
  have s2 := kS.cell 2 (.int .i64 m) rfl
  have s3 := kS.cell 3 (.int .i64 a) rfl
  have s4 := kS.cell 4 (.slice fa F.length fca) rfl
  have s5 := kS.cell 5 (.int .i64 t) rfl
  clear ht hm hn1 hn5 hcnt
  go_enter Tryz.func10, Tryz.ntmps10
  go_wp2_with fail
  refine (c_NewSearch_ok N _ _ R m _ (hA.keep hb) hok).mono ?_
  rintro e w1 ⟨o, c, xs, rfl, hN, hbn⟩
  replace kS := kS.keep hbn
  replace hb := bel_to hb hbn
  have hsz := kS.lt
  have hoff9 : ∀ y ∈ xs, True := fun _ _ => trivial
  have hrow := hN.read hA.1.len HLR.out
  clear hbn s0 s1 s2 s3 s4 s5 hN hok
  have hbb := (Below.refl w1.heap.size w1).alloc (Nat.le_refl _) (.cells #[.int .i64 N, .slice o R.length c, .int .i64 m, .int .i64 0, .slice none 0 0, .int .i64 0] 29)
  have kN := Blk.new w1 #[.int .i64 N, .slice o R.length c, .int .i64 m, .int .i64 0, .slice none 0 0, .int .i64 0] 29
  replace kS := kS.keep hbb
  have hrow0 := hrow
  replace hrow := hbb
  replace hb := bel_to hb hbb
  clear hbb
  have s0 := kS.cell 0 (.int .i64 N) rfl
  have s1 := kS.cell 1 (.slice oa R.length ca) rfl
  have s2 := kS.cell 2 (.int .i64 m) rfl
  have s3 := kS.cell 3 (.int .i64 a) rfl
  have s4 := kS.cell 4 (.slice fa F.length fca) rfl
  have s5 := kS.cell 5 (.int .i64 t) rfl
  by_cases ha0 : a < 0
  · have HM : Hid (isSrF ⟨N, R, m, a, F, t⟩ = false) := by show isSrF ⟨N, R, m, a, F, t⟩ = false; unfold isSrF; dsimp only; rw [HCN.out, decide_eq_false (show ¬ (0 ≤ a) by omega)]; simp
    have hda : decide (a < 0) = true := decide_eq_true ha0
    go_wp2_with fail
    (refine wp_region_after (by kernel_rfl) (by kernel_rfl) ?_; have q_s3 := fun (x : After _) => cell_keep s3 x.bel; (repeat (go_big_quiet_step (fail))); clear q_s3; refine wpQuiet_nil ?_; rintro _ ⟨⟨w1, hbn⟩, rfl⟩; (try simp only [After.w]); replace s3 := cell_keep s3 hbn; replace hb := bel_to (w := w) (by first | exact hb | exact hb.alloc hb.size _ | exact (hb.alloc hb.size _).alloc (Nat.le_trans hb.size (by simp)) _ | exact hb.setCell (by simp [hb.size]) _) hbn; clear hbn)
    go_wp2
    go_ret
    exact ⟨ret_bool HM.out.symm, hb⟩
  have hda : decide (a < 0) = false := decide_eq_false ha0
  by_cases haM : (M : Int) < a
  · have HM : Hid (isSrF ⟨N, R, m, a, F, t⟩ = false) := by show isSrF ⟨N, R, m, a, F, t⟩ = false; unfold isSrF; dsimp only; rw [HCN.out, decide_eq_false (show ¬ (a ≤ (M : Int)) by omega)]; simp
    have hdm : decide ((M : Int) < a) = true := decide_eq_true haM
    go_wp2_with fail
    (refine wp_region_after (by kernel_rfl) (by kernel_rfl) ?_; have q_s0 := fun (x : After _) => cell_keep s0 x.bel; have q_s3 := fun (x : After _) => cell_keep s3 x.bel; (repeat (go_big_quiet_step ((first | (go_at_call 44; exact Ans.after (HCO.out _)))))); clear q_s0; clear q_s3; refine wpQuiet_nil ?_; rintro _ ⟨⟨w1, hbn⟩, rfl⟩; (try simp only [After.w]); replace s0 := cell_keep s0 hbn; replace s3 := cell_keep s3 hbn; replace hb := bel_to (w := w) (by first | exact hb | exact hb.alloc hb.size _ | exact (hb.alloc hb.size _).alloc (Nat.le_trans hb.size (by simp)) _ | exact hb.setCell (by simp [hb.size]) _) hbn; clear hbn)
    go_wp2
    go_ret
    exact ⟨ret_bool HM.out.symm, hb⟩
  obtain ⟨K, rfl⟩ := Int.eq_ofNat_of_zero_le (show 0 ≤ a by omega)
  have hKM : K ≤ M := by omega
  have hdm : decide ((M : Int) < (K : Int)) = false := decide_eq_false haM
  go_wp2_with fail
  (refine wp_region_after (by kernel_rfl) (by kernel_rfl) ?_; have q_s0 := fun (x : After _) => cell_keep s0 x.bel; have q_s3 := fun (x : After _) => cell_keep s3 x.bel; (repeat (go_big_quiet_step ((first | (go_at_call 44; exact Ans.after (HCO.out _)))))); clear q_s0; clear q_s3; refine wpQuiet_nil ?_; rintro _ ⟨⟨w1, hbn⟩, rfl⟩; (try simp only [After.w]); replace s0 := cell_keep s0 hbn; replace s3 := cell_keep s3 hbn; replace kS := kS.keep hbn; replace kN := kN.keep hbn; replace hrow := bel_to hrow hbn; replace hb := bel_to (w := w) (by first | exact hb | exact hb.alloc hb.size _ | exact (hb.alloc hb.size _).alloc (Nat.le_trans hb.size (by simp)) _ | exact hb.setCell (by simp [hb.size]) _) hbn; clear hbn)
  clear s0 s1 s2 s3 s4 s5
  go_wp2
  go_loopw [30] (fun _ wr => ∃ (k : Nat) (G : List (Int × Int)) (g : Int) (fo : Option Addr) (fc : Nat), k ≤ K ∧ repF R m N k = (G, g) ∧ Blk wr w.heap.size #[.int .i64 N, .slice oa R.length ca, .int .i64 m, .int .i64 K, .slice fa F.length fca, .int .i64 t] 29 ∧ Blk wr w1.heap.size #[.int .i64 N, .slice o R.length c, .int .i64 m, .int .i64 k, .slice fo G.length fc, .int .i64 g] 29 ∧ Below w1.heap.size w1 wr ∧ OwnD wr w.heap.size (.slice fo G.length fc) G ∧ (Value.slice fo G.length fc).ownBlock ≠ some w1.heap.size ∧ Below w.heap.size w wr) (fun _ wr => K - atOf wr w1.heap.size)
  case atStart => exact ⟨0, [], 0, none, 0, Nat.zero_le _, rfl, kS, kN, hrow, World.ownsRow_nil _ _ _ _, by simp [Value.ownBlock], hb⟩
  case round =>
    clear kS kN hrow hb
    obtain ⟨k, G, g, fo, fc, hk, hGg, kS, kN, hrow, hO, hne, hb⟩ := hrel
    have HG : Hid (repF R m N k = (G, g)) := hGg
    obtain ⟨_, i2, i3, i4⟩ := HK.out k (by omega)
    rw [hGg] at i2 i3 i4
    dsimp only at i2 i3 i4
    clear hGg
    have s3 := kS.cell 3 (.int .i64 K) rfl
    have n0 := kN.cell 0 (.int .i64 N) rfl
    have n1 := kN.cell 1 (.slice o R.length c) rfl
    have n2 := kN.cell 2 (.int .i64 m) rfl
    have n3 := kN.cell 3 (.int .i64 k) rfl
    have n4 := kN.cell 4 (.slice fo G.length fc) rfl
    have n5 := kN.cell 5 (.int .i64 g) rfl
    by_cases hlt : k < K
    · have HSK : Hid (repF R m N (k + 1) = stepF R m N k (G, g)) := by show repF R m N (k + 1) = _; rw [HS.out, HG.out]
      have hm1 : atOf wr w1.heap.size = k := atOf_eq n3
      have HM1 : Hid (atOf wr w1.heap.size = k) := hm1
      clear hm1
      go_wp2_with fail
      refine (HSF.out o c k fo fc g G w.heap.size _ (hrow0.keep hrow) (by omega) hO hb.size (by omega) i3 (by omega)).mono ?_
      rintro e w4 ⟨fo', fc', rfl, hO', hfr, hbn⟩
      have hdl := kN.lt
      have hne' : (Value.slice fo' (stepF R m N k (G, g)).1.length fc').ownBlock ≠ some w1.heap.size := fun e9 => by
        rcases hfr with h | h
        · rw [h] at e9; exact hne e9
        · have := h w1.heap.size e9; omega
      replace kS := kS.keep hbn
      replace kN := kN.keep hbn
      replace hrow := bel_to hrow hbn
      replace hb := bel_to hb hbn
      clear hbn s3 n0 n1 n2 n3 n4 n5 hfr hO
      have n0 := kN.cell 0 (.int .i64 N) rfl
      have n1 := kN.cell 1 (.slice o R.length c) rfl
      have n2 := kN.cell 2 (.int .i64 m) rfl
      have n3 := kN.cell 3 (.int .i64 k) rfl
      have n4 := kN.cell 4 (.slice fo G.length fc) rfl
      have n5 := kN.cell 5 (.int .i64 g) rfl
      have f0 := kN.free 0
      have f1 := kN.free 1
      have f2 := kN.free 2
      have f3 := kN.free 3
      have f4 := kN.free 4
      have f5 := kN.free 5
      obtain ⟨G', g', hz⟩ : ∃ G' g', stepF R m N k (G, g) = (G', g') := ⟨_, _, rfl⟩
      have HZ2 : Hid (repF R m N (k + 1) = (G', g')) := by show repF R m N (k + 1) = _; rw [HSK.out, hz]
      rw [hz] at hO' hne' ⊢
      dsimp only at hO' hne' ⊢
      clear hz
      have kS2 := kS.far6 (show w.heap.size ≠ w1.heap.size by omega) (.int .i64 N) (.slice o R.length c) (.int .i64 m) (.int .i64 ((k : Int) + 1)) (.slice fo' G'.length fc') (.int .i64 g')
      have kN2 := kN.set6 (.int .i64 N) (.slice o R.length c) (.int .i64 m) (.int .i64 ((k : Int) + 1)) (.slice fo' G'.length fc') (.int .i64 g')
      have hO2 := OwnD.set6 hO' hne' (.int .i64 N) (.slice o R.length c) (.int .i64 m) (.int .i64 ((k : Int) + 1)) (.slice fo' G'.length fc') (.int .i64 g')
      have hb2 := bel_set6 hb (show w.heap.size ≤ w1.heap.size by omega) (.int .i64 N) (.slice o R.length c) (.int .i64 m) (.int .i64 ((k : Int) + 1)) (.slice fo' G'.length fc') (.int .i64 g')
      have HR2 : Hid (Below w1.heap.size w1 (set6 w4 w1.heap.size (.int .i64 N) (.slice o R.length c) (.int .i64 m) (.int .i64 ((k : Int) + 1)) (.slice fo' G'.length fc') (.int .i64 g'))) := bel_set6 hrow (Nat.le_refl _) (.int .i64 N) (.slice o R.length c) (.int .i64 m) (.int .i64 ((k : Int) + 1)) (.slice fo' G'.length fc') (.int .i64 g')
      have HM2 : Hid (atOf (set6 w4 w1.heap.size (.int .i64 N) (.slice o R.length c) (.int .i64 m) (.int .i64 ((k : Int) + 1)) (.slice fo' G'.length fc') (.int .i64 g')) w1.heap.size = k + 1) := by
        have h := kN2.cell 3 _ rfl
        exact atOf_eq (k := k + 1) (by simpa using h)
      clear kS kN hO' hrow hb
      go_wp2
      go_roundw
      case rel => exact ⟨k + 1, G', g', fo', fc', by omega, HZ2.out, kS2, by rw [show ((k + 1 : Nat) : Int) = (k : Int) + 1 by omega]; exact kN2, HR2.out, hO2, hne', hb2⟩
      case measure => have h1 := HM1.out; have h2 := HM2.out; unfold set6 at h2; rw [h1, h2]; omega
    · have hkk : k = K := by omega
      have HKK : Hid (repF R m N K = (G, g)) := by show repF R m N K = (G, g); rw [← hkk]; exact HG.out
      have HM : Hid (isSrF ⟨N, R, m, K, F, t⟩ = (decide (g = t) && decide (G = F))) := by
        show isSrF ⟨N, R, m, K, F, t⟩ = _
        unfold isSrF
        dsimp only
        rw [HCN.out, HST.out.1, HST.out.2, Int.toNat_natCast, Int.toNat_natCast, HKK.out, decide_eq_true (show 0 ≤ (K : Int) by omega), decide_eq_true (show (K : Int) ≤ (M : Int) by omega)]; rfl
      clear hkk
      have s4 := kS.cell 4 (.slice fa F.length fca) rfl
      have s5 := kS.cell 5 (.int .i64 t) rfl
      cases h5 : (g == t)
      · go_wp2_with fail
        go_ret
        exact ⟨ret_bool (by rw [HM.out, decide_eq_false (by simpa using h5)]; rfl), hb⟩
      · have hGr : G.length ≤ Room := by unfold Room; omega
        have HE : Hid (g = t) := by show g = t; simpa using h5
        go_wp2_with (first | (go_at_call 50; refine Calls.mono (c_SameDeps _ _ _ _ G F _ (hO.deps rfl hGr) (hC.keep hb)) ?_; rintro e w5 ⟨rfl, hbn⟩; replace hb := bel_to hb hbn; clear hbn) | fail)
        go_ret
        exact ⟨ret_bool (by rw [HM.out, decide_eq_true HE.out]; rfl), hb⟩
end Go.Proofs.YtcenndlbhgfdfaaGreat
namespace Go.Proofs.YtcenndlbhgfdfaaGreat
open Go.RowKit
set_option linter.unusedVariables false
set_option maxRecDepth 100000

def covF (D : List (Int × Int)) (x r : Int) : Bool := D.any fun o => (o.2 == r) && insA o.1 x
theorem c_l8Covered (oa) (cap : Nat) (D : List (Int × Int)) (x r : Int) (w : World) (hD : DepsAt w oa D) :
    Ans Tryz.prog 91 #[.slice oa D.length cap, .agg #[.int .i64 x, .int .i64 r]] w (.bool (covF D x r)) := by
  unfold Ans
  have hn : D.length ≤ 1073741824 := hD.len
  have hb := (Below.refl w.heap.size w).alloc (Nat.le_refl _) (.cells #[.int .i64 x, .int .i64 r] 38)
  have d0 := box_at w #[.int .i64 x, .int .i64 r] 38 0 _ rfl
  have d1 := box_at w #[.int .i64 x, .int .i64 r] 38 1 _ rfl
  go_enter Tryz.func91, Tryz.ntmps91
  go_wp2
  go_loopw [5] (fun i wr => ∃ k : Nat, i = .int .i64 k ∧ k ≤ D.length ∧ (D.take k).all (fun o => !((o.2 == r) && insA o.1 x)) = true ∧ wr.cell? ⟨w.heap.size, 0, none⟩ = some (.int .i64 x) ∧ wr.cell? ⟨w.heap.size, 1, none⟩ = some (.int .i64 r) ∧ Below w.heap.size w wr) (fun i _ => D.length - (intOf i).toNat)
  case atStart => exact ⟨0, rfl, Nat.zero_le _, by simp, d0, d1, hb⟩
  case round =>
    clear d0 d1 hb
    obtain ⟨k, rfl, hk, hall, d0, d1, hb⟩ := hrel
    have HA : Hid ((D.take k).all (fun o => !((o.2 == r) && insA o.1 x)) = true) := hall
    clear hall
    by_cases hlt : k < D.length
    · obtain ⟨b, off, rfl, hbs, hc⟩ := hD.at_ (by omega)
      have hc1 := cell_keep (hc k hlt).1 hb
      have hc2 := cell_keep (hc k hlt).2 hb
      have HT : Hid ((D.take (k + 1)).all (fun o => !((o.2 == r) && insA o.1 x)) = ((D.take k).all (fun o => !((o.2 == r) && insA o.1 x)) && !((nr D k == r) && insA (nl D k) x))) := dall_take_succ (fun o => !((o.2 == r) && insA o.1 x)) D k hlt
      have HY : Hid (((nr D k == r) && insA (nl D k) x) = true → covF D x r = true) := fun h => List.any_eq_true.2 ⟨(nl D k, nr D k), List.mem_iff_getElem?.2 ⟨k, dnth_eq hlt⟩, h⟩
      clear hc
      generalize nl D k = l at *
      generalize nr D k = q at *
      cases h1 : (q == r)
      · go_wp2_with fail
        (refine wp_region_after (by kernel_rfl) (by kernel_rfl) ?_; have q_d0 := fun (x : After _) => cell_keep d0 x.bel; have q_d1 := fun (x : After _) => cell_keep d1 x.bel; have q_hc1 := fun (x : After _) => cell_keep hc1 x.bel; have q_hc2 := fun (x : After _) => cell_keep hc2 x.bel; (repeat (go_big_quiet_step (fail))); clear q_d0; clear q_d1; clear q_hc1; clear q_hc2; refine wpQuiet_nil ?_; rintro _ ⟨⟨w1, hbn⟩, rfl⟩; (try simp only [After.w]); replace d0 := cell_keep d0 hbn; replace d1 := cell_keep d1 hbn; replace hc1 := cell_keep hc1 hbn; replace hc2 := cell_keep hc2 hbn; replace hb := bel_to (w := w) (by first | exact hb | exact hb.alloc hb.size _ | exact (hb.alloc hb.size _).alloc (Nat.le_trans hb.size (by simp)) _ | exact hb.setCell (by simp [hb.size]) _) hbn; clear hbn)
        go_wp2
        go_roundw
        case rel => exact ⟨k + 1, by go_num, by omega, by rw [HT.out, HA.out, h1]; rfl, d0, d1, hb⟩
        case measure => simp [intOf]; omega
      · cases h2 : (bits BinOp.and .i64 l x == l)
        · go_wp2_with fail
          (refine wp_region_after (by kernel_rfl) (by kernel_rfl) ?_; have q_d0 := fun (x : After _) => cell_keep d0 x.bel; have q_d1 := fun (x : After _) => cell_keep d1 x.bel; have q_hc1 := fun (x : After _) => cell_keep hc1 x.bel; have q_hc2 := fun (x : After _) => cell_keep hc2 x.bel; (repeat (go_big_quiet_step (fail))); clear q_d0; clear q_d1; clear q_hc1; clear q_hc2; refine wpQuiet_nil ?_; rintro _ ⟨⟨w1, hbn⟩, rfl⟩; (try simp only [After.w]); replace d0 := cell_keep d0 hbn; replace d1 := cell_keep d1 hbn; replace hc1 := cell_keep hc1 hbn; replace hc2 := cell_keep hc2 hbn; replace hb := bel_to (w := w) (by first | exact hb | exact hb.alloc hb.size _ | exact (hb.alloc hb.size _).alloc (Nat.le_trans hb.size (by simp)) _ | exact hb.setCell (by simp [hb.size]) _) hbn; clear hbn)
          go_wp2
          go_roundw
          case rel => exact ⟨k + 1, by go_num, by omega, by rw [HT.out, HA.out, h1]; unfold insA; rw [h2]; rfl, d0, d1, hb⟩
          case measure => simp [intOf]; omega
        · go_wp2_with fail
          (refine wp_region_after (by kernel_rfl) (by kernel_rfl) ?_; have q_d0 := fun (x : After _) => cell_keep d0 x.bel; have q_d1 := fun (x : After _) => cell_keep d1 x.bel; have q_hc1 := fun (x : After _) => cell_keep hc1 x.bel; have q_hc2 := fun (x : After _) => cell_keep hc2 x.bel; (repeat (go_big_quiet_step (fail))); clear q_d0; clear q_d1; clear q_hc1; clear q_hc2; refine wpQuiet_nil ?_; rintro _ ⟨⟨w1, hbn⟩, rfl⟩; (try simp only [After.w]); replace d0 := cell_keep d0 hbn; replace d1 := cell_keep d1 hbn; replace hc1 := cell_keep hc1 hbn; replace hc2 := cell_keep hc2 hbn; replace hb := bel_to (w := w) (by first | exact hb | exact hb.alloc hb.size _ | exact (hb.alloc hb.size _).alloc (Nat.le_trans hb.size (by simp)) _ | exact hb.setCell (by simp [hb.size]) _) hbn; clear hbn)
          go_wp2
          go_ret
          exact ⟨ret_bool (HY.out (by rw [h1]; unfold insA; rw [h2]; rfl)).symm, hb⟩
    · have hkk : k = D.length := by omega
      have HS : Hid (covF D x r = false) := by
        have h := HA.out
        rw [hkk, List.take_length, List.all_eq_true] at h
        show covF D x r = false
        unfold covF
        rw [List.any_eq_false]
        intro y hy
        have := h y hy
        intro e
        rw [e] at this
        cases this
      clear hkk
      go_wp2
      go_ret
      exact ⟨ret_bool HS.out.symm, hb⟩
end Go.Proofs.YtcenndlbhgfdfaaGreat
