/- Contracts and lemmas for FnKeys, part 3 of 6. -/
import Derived.Test.YtjbmpnbfiahdhaaQFnKeys1
import Derived.Test.YtjbmpnbfiahdhaaQFnKeys2
import Derived.Deep.RegionHeld3
namespace Go.Proofs.Ytjbmpnbfiahdhaa
open Go.RowKit
set_option linter.unusedVariables false
set_option maxRecDepth 100000

def minP (p : Int → Bool) (x : Int) : Bool := (List.range 32).all fun (y : Nat) => !(p y && ins y x) || ((y : Int) == x)
def minL (p : Int → Bool) : List Int := flt (fun x => p x && minP p x) 32
theorem minP_iff {p : Int → Bool} {x : Int} : minP p x = true ↔ ∀ y, St y → p y = true → ins y x = true → y = x := by
  unfold minP
  rw [List.all_eq_true]
  constructor
  · intro h y hy hp hi
    obtain ⟨n, hn, rfl⟩ := st_nat hy
    have := h n (List.mem_range.2 hn)
    rw [hp, hi] at this
    simpa using this
  · intro h n hn
    have hs : St (n : Int) := by have := List.mem_range.1 hn; unfold St; omega
    cases hp : p n
    · simp
    · cases hi : ins n x
      · simp
      · have := h n hs hp hi
        simp [this]
theorem minL_mem {p : Int → Bool} {x : Int} : x ∈ minL p ↔ St x ∧ p x = true ∧ ∀ y, St y → p y = true → ins y x = true → y = x := by
  unfold minL
  rw [flt_mem, Bool.and_eq_true, minP_iff]
  constructor
  · rintro ⟨h, h1, h2⟩; exact ⟨by unfold St; omega, h1, h2⟩
  · rintro ⟨h, h1, h2⟩; exact ⟨by unfold St at h; omega, h1, h2⟩
theorem exists_min {p : Int → Bool} : ∀ (k : Nat) (z : Int), card z ≤ k → St z → p z = true → ∃ x, x ∈ minL p ∧ ins x z = true
  | k, z, hk, hz, hp => by
    by_cases hm : minP p z = true
    · exact ⟨z, minL_mem.2 ⟨hz, hp, minP_iff.1 hm⟩, ins_refl hz⟩
    · have : ∃ y, St y ∧ p y = true ∧ ins y z = true ∧ y ≠ z := by
        refine Classical.byContradiction fun hn => hm (minP_iff.2 fun y hy h1 h2 => ?_)
        exact Classical.byContradiction fun hne => hn ⟨y, hy, h1, h2, hne⟩
      obtain ⟨y, hy, h1, h2, hne⟩ := this
      have hc := card_lt hy hz h2 hne
      match k, hk with
      | 0, hk => omega
      | k + 1, hk =>
        obtain ⟨x, hx, hxy⟩ := exists_min k y (by omega) hy h1
        exact ⟨x, hx, ins_trans (minL_mem.1 hx).1 hy hz hxy h2⟩
theorem minB_iff {G : List Int} {x : Int} : minB G x = true ↔ ∀ y ∈ G, ins y x = true → y = x := by
  unfold minB
  rw [List.all_eq_true]
  constructor
  · intro h y hy hi
    have := h y hy
    rw [hi] at this
    simp at this
    exact this.symm
  · intro h y hy
    cases hi : ins y x
    · simp
    · simp [h y hy hi]
/-- What lies in the family, and below all of it, has its minimal sets. -/
theorem minF_family {G : List Int} {p : Int → Bool} (hl : G.length ≤ 100) (h1 : ∀ x ∈ G, St x ∧ p x = true) (h2 : ∀ z, St z → p z = true → ∃ g ∈ G, ins g z = true) : minF G = minL p := by
  have hs : setsF G = true := List.all_eq_true.2 fun x hx => by simpa [stB] using (h1 x hx).1
  rw [minF_sets hs hl]
  refine up_ext (flt_up _ _) (flt_up _ _) fun x => ?_
  rw [flt_mem, minL_mem, Bool.and_eq_true, minB_iff]
  constructor
  · rintro ⟨_, hx, hm⟩
    have hx : x ∈ G := by simpa [inB'] using hx
    obtain ⟨sx, px⟩ := h1 x hx
    refine ⟨sx, px, fun y sy py hy => ?_⟩
    obtain ⟨g, hg, hgy⟩ := h2 y sy py
    have sg := (h1 g hg).1
    have e := hm g hg (ins_trans sg sy sx hgy hy)
    subst e
    exact ins_antisymm sy sx hy hgy
  · rintro ⟨sx, px, hm⟩
    obtain ⟨g, hg, hgx⟩ := h2 x sx px
    obtain ⟨sg, pg⟩ := h1 g hg
    have e := hm g sg pg hgx
    subst e
    exact ⟨by unfold St at sx; omega, by simpa [inB'] using hg, fun y hy hi => hm y (h1 y hy).1 (h1 y hy).2 hi⟩
theorem apart_iff {e x : Int} (he : St e) (hx : St x) : apart e x = false ↔ ∃ c, Co c ∧ hasc e c = true ∧ hasc x c = true := by
  obtain ⟨n, hn, rfl⟩ := st_nat he; obtain ⟨m, hm, rfl⟩ := st_nat hx
  have h : ∀ n < 32, ∀ m < 32, (apart ((n : Nat) : Int) ((m : Nat) : Int) = false ↔ ∃ c < 5, hasc (n : Nat) (c : Nat) = true ∧ hasc (m : Nat) (c : Nat) = true) := by decide +kernel
  rw [h n hn m hm]
  constructor
  · rintro ⟨c, hc, h⟩; exact ⟨c, by unfold Co; omega, h⟩
  · rintro ⟨c, hc, h⟩; obtain ⟨k, hk, rfl⟩ := co_nat hc; exact ⟨k, hk, h⟩
theorem apart_up {e x y : Int} (he : St e) (hx : St x) (hy : St y) (hi : ins x y = true) (h : apart e x = false) : apart e y = false := by
  obtain ⟨c, hc, h1, h2⟩ := (apart_iff he hx).1 h
  exact (apart_iff he hy).2 ⟨c, hc, h1, (ins_iff hx hy).1 hi c hc h2⟩
theorem apart_comm {e x : Int} (he : St e) (hx : St x) : apart e x = apart x e := by
  cases h : apart x e
  · obtain ⟨c, hc, h1, h2⟩ := (apart_iff hx he).1 h
    exact (apart_iff he hx).2 ⟨c, hc, h2, h1⟩
  · cases h' : apart e x
    · obtain ⟨c, hc, h1, h2⟩ := (apart_iff he hx).1 h'
      rw [(apart_iff hx he).2 ⟨c, hc, h2, h1⟩] at h; cases h
    · rfl
theorem membersT_mem {e c : Int} (he : St e) (hc : Co c) (h : hasc e c = true) : c ∈ membersF e := by
  unfold membersF
  rw [if_pos (by simpa [stB] using he)]
  obtain ⟨k, hk, rfl⟩ := co_nat hc
  unfold membersUpTo
  exact List.mem_filter.2 ⟨List.mem_map.2 ⟨k, List.mem_range.2 hk, rfl⟩, h⟩
def UpC (p : Int → Bool) : Prop := ∀ x y, St x → St y → ins x y = true → p x = true → p y = true
theorem growF_minL {p : Int → Bool} {e : Int} (he : St e) (hup : UpC p) : growF (minL p) e = minL (fun x => p x && !apart e x) := by
  have hmem : ∀ x ∈ minL p, St x := fun x hx => (minL_mem.1 hx).1
  have hlen : (minL p).length ≤ 32 := flt_le _ _
  have hok : growOk (minL p) e = true := by
    unfold growOk
    have h1 : setsF (minL p) = true := List.all_eq_true.2 fun x hx => by simpa [stB] using hmem x hx
    have h2 : stB e = true := by simpa [stB] using he
    rw [h1, h2]; simp; omega
  unfold growF
  rw [if_pos hok]
  have hg := grown_st (e := e) hmem
  have hdm : ∀ y, y ∈ distinctF (grownF (minL p) e) ↔ y ∈ grownF (minL p) e := (distinctF_up _).2
  refine minF_family ?_ ?_ ?_
  · rw [distinctF_flt hg]; exact Nat.le_trans (flt_le _ _) (by omega)
  · intro y hy
    rw [hdm] at hy
    refine ⟨hg y hy, ?_⟩
    obtain ⟨x, hx, hy'⟩ := List.mem_flatMap.1 hy
    obtain ⟨sx, px, _⟩ := minL_mem.1 hx
    unfold growOne at hy'
    split at hy'
    · obtain ⟨c, hc, rfl⟩ := List.mem_map.1 hy'
      obtain ⟨cc, ch⟩ := members_co c hc
      have su := uni_st sx (one_st cc)
      have h1 := hup x _ sx su (ins_uni_left sx (one_st cc)) px
      have h2 : apart e (uni x (one c)) = false := (apart_iff he su).2 ⟨c, cc, ch, by rw [hasc_uni sx (one_st cc) cc, hasc_one cc cc]; simp⟩
      rw [h1, h2]; rfl
    · next hna =>
      simp at hy'
      subst hy'
      have h2 : apart e y = false := by rw [apart_comm he sx]; simpa using hna
      rw [px, h2]; rfl
  · intro z sz pz
    have hpz : p z = true ∧ apart e z = false := by simpa using pz
    obtain ⟨x, hx, hxz⟩ := exists_min (p := p) (card z) z (Nat.le_refl _) sz hpz.1
    have sx := hmem x hx
    cases ha : apart x e
    · exact ⟨x, (hdm x).2 (List.mem_flatMap.2 ⟨x, hx, by unfold growOne; rw [ha]; simp⟩), hxz⟩
    · obtain ⟨c, cc, h1, h2⟩ := (apart_iff he sz).1 hpz.2
      refine ⟨uni x (one c), (hdm _).2 (List.mem_flatMap.2 ⟨x, hx, ?_⟩), uni_ins sx (one_st cc) sz hxz (one_ins cc sz h2)⟩
      unfold growOne
      rw [ha]
      exact List.mem_map.2 ⟨c, membersT_mem he cc h1, rfl⟩
theorem hitsF_up {L : List Int} (h : ∀ e ∈ L, St e) : UpC (hitsF L) := by
  intro x y sx sy hi hx
  unfold hitsF at hx ⊢
  rw [List.all_eq_true] at hx ⊢
  intro e he
  have := hx e he
  have h2 := apart_up (h e he) sx sy hi (by simpa using this)
  rw [h2]; rfl
theorem hits_snoc (L : List Int) (e : Int) : hitsF (L ++ [e]) = fun x => hitsF L x && !apart e x := by
  funext x
  unfold hitsF
  rw [List.all_append]
  simp
theorem minL_all : minL (hitsF []) = [0] := by decide +kernel
theorem grow_fold {L : List Int} (h : ∀ e ∈ L, St e) (k : Nat) (hk : k ≤ L.length) : (L.take k).foldl growF [0] = minL (hitsF (L.take k)) := by
  induction k with
  | zero => rw [List.take_zero, minL_all]; rfl
  | succ k ih =>
    have hlt : k < L.length := by omega
    have e1 : L.take (k + 1) = L.take k ++ [nth L k] := by rw [List.take_add_one, nth_eq hlt]; rfl
    rw [e1, List.foldl_append, ih (by omega), hits_snoc]
    exact growF_minL (h _ (List.mem_iff_getElem?.2 ⟨k, nth_eq hlt⟩)) (hitsF_up fun e he => h e (List.mem_of_mem_take he))
theorem low_nat : ∀ m < 6, ∀ q < 32, ∀ d < 32, (decide (((d : Nat) : Int) < 2 ^ ((m : Nat) : Int).toNat) && !apart ((d : Nat) : Int) ((q : Nat) : Int) && apart ((d : Nat) : Int) (cap ((q : Nat) : Int) (2 ^ ((m : Nat) : Int).toNat - 1))) = false := by decide +kernel
theorem low_part {n : Int} (h0 : 0 ≤ n) (h5 : n ≤ 5) {e z : Int} (sz : St z) (he1 : 0 ≤ e) (he2 : e < 2 ^ n.toNat) (ha : apart e z = false) : apart e (cap z (2 ^ n.toNat - 1)) = false := by
  obtain ⟨m, rfl⟩ := Int.eq_ofNat_of_zero_le h0
  obtain ⟨q, hq, rfl⟩ := st_nat sz
  obtain ⟨d, rfl⟩ := Int.eq_ofNat_of_zero_le he1
  have hm : m < 6 := by omega
  have h32 : ∀ m < 6, (2 : Int) ^ ((m : Nat) : Int).toNat ≤ 32 := by decide
  have hd : d < 32 := by have := h32 m hm; omega
  have h := low_nat m hm q hq d hd
  rw [ha, decide_eq_true he2] at h
  simpa using h
theorem low_ins {n : Int} (h0 : 0 ≤ n) (h5 : n ≤ 5) {z : Int} (sz : St z) : 0 ≤ cap z (2 ^ n.toNat - 1) ∧ cap z (2 ^ n.toNat - 1) < 2 ^ n.toNat ∧ ins (cap z (2 ^ n.toNat - 1)) z = true := by
  obtain ⟨m, rfl⟩ := Int.eq_ofNat_of_zero_le h0
  obtain ⟨q, hq, rfl⟩ := st_nat sz
  have h : ∀ m < 6, ∀ q < 32, (0 ≤ cap ((q : Nat) : Int) (2 ^ ((m : Nat) : Int).toNat - 1) ∧ cap ((q : Nat) : Int) (2 ^ ((m : Nat) : Int).toNat - 1) < 2 ^ ((m : Nat) : Int).toNat ∧ ins (cap ((q : Nat) : Int) (2 ^ ((m : Nat) : Int).toNat - 1)) ((q : Nat) : Int) = true) := by decide +kernel
  exact h m (by omega) q hq
def transOk (L : List Int) (n : Int) : Bool := decide (0 ≤ n) && decide (n ≤ 5) && decide (L.length ≤ 100) && L.all (isAttr n)
def transF (L : List Int) (n : Int) : List Int := if transOk L n then minF (flt (hitsF L) (2 ^ n.toNat)) else []
theorem trans_edges {L : List Int} {n : Int} (h : transOk L n = true) : 0 ≤ n ∧ n ≤ 5 ∧ L.length ≤ 100 ∧ ∀ e ∈ L, 0 ≤ e ∧ e < 2 ^ n.toNat := by
  unfold transOk at h
  simp only [Bool.and_eq_true, decide_eq_true_eq] at h
  refine ⟨h.1.1.1, h.1.1.2, h.1.2, fun e he => ?_⟩
  have := List.all_eq_true.1 h.2 e he
  unfold isAttr at this
  simp only [Bool.and_eq_true, decide_eq_true_eq] at this
  exact ⟨this.1.2, this.2⟩
theorem trans_st {L : List Int} {n : Int} (h : transOk L n = true) : ∀ e ∈ L, St e := by
  obtain ⟨h0, h5, _, he⟩ := trans_edges h
  intro e hm
  have := he e hm
  have h2 := (pow_wrap h0 h5).2.1
  exact ⟨this.1, by omega⟩
theorem transF_fold {L : List Int} {n : Int} (h : transOk L n = true) : transF L n = L.foldl growF [0] := by
  obtain ⟨h0, h5, hl, he⟩ := trans_edges h
  have hst := trans_st h
  have hp := pow_nat h0 h5
  have hf := grow_fold hst L.length (Nat.le_refl _)
  rw [List.take_length] at hf
  rw [hf]
  unfold transF
  rw [if_pos h]
  have hlen := flt_le (hitsF L) (2 ^ n.toNat)
  refine minF_family (by omega) (fun x hx => ?_) (fun z sz hz => ?_)
  · obtain ⟨⟨a, b⟩, c⟩ := flt_mem.1 hx
    exact ⟨⟨a, by have := hp.2.1; omega⟩, c⟩
  · obtain ⟨a, b, c⟩ := low_ins h0 h5 sz
    refine ⟨cap z (2 ^ n.toNat - 1), flt_mem.2 ⟨⟨a, by rw [hp.1]; exact b⟩, ?_⟩, c⟩
    unfold hitsF at hz ⊢
    rw [List.all_eq_true] at hz ⊢
    intro e hm
    have h1 := hz e hm
    rw [low_part h0 h5 sz (he e hm).1 (he e hm).2 (by simpa using h1)]; rfl
theorem transF_len (L : List Int) (n : Int) : (transF L n).length ≤ Room := by
  unfold transF
  split
  · have := minF_len (flt (hitsF L) (2 ^ n.toNat)); unfold Room; omega
  · simp
end Go.Proofs.Ytjbmpnbfiahdhaa
namespace Go.Proofs.Ytjbmpnbfiahdhaa
open Go.RowKit
set_option linter.unusedVariables false
set_option maxRecDepth 100000

theorem one_wrap : ∀ j < 5, one ((j : Nat) : Int) = IntKind.i64.wrap (2 ^ j) := by decide +kernel
theorem putF_take {L : List Int} (h : ∀ x ∈ L, St x) {k : Nat} (hk : k < L.length) : flt (inB' (L.take (k + 1))) 32 = putF (flt (inB' (L.take k)) 32) (nth L k) := by
  rw [putF_flt _ (h _ (List.mem_iff_getElem?.2 ⟨k, nth_eq hk⟩))]
  congr 1
  funext y
  unfold inB'
  rw [List.take_add_one, nth_eq hk]
  simp [Bool.decide_or]
  rfl
end Go.Proofs.Ytjbmpnbfiahdhaa
namespace Go.Proofs.Ytjbmpnbfiahdhaa
open Go.RowKit
set_option linter.unusedVariables false
set_option maxRecDepth 100000

theorem transF_no {L : List Int} {n : Int} (h : transOk L n = false) : transF L n = [] := by unfold transF; rw [h]; rfl
set_option maxHeartbeats 800000 in
theorem c_Transversals (oa) (cap : Nat) (L : List Int) (n : Int) (w : World) (hL : IntsAt w oa L) :
    Calls Try.prog 153 #[.slice oa L.length cap, .int .i64 n] w fun en w' => ∃ v, en = .returned v ∧ OwnI w' w.heap.size v (transF L n) ∧ Below w.heap.size w w' := by
  obtain ⟨i0, hi, hz0, hz1, hz2⟩ := info_parts info_int
  have hn : L.length ≤ 1073741824 := hL.len
  have hb := (Below.refl w.heap.size w).alloc (Nat.le_refl _) (.cells #[] 3)
  have hI := OwnI.empty w w.heap.size (Nat.le_refl _)
  by_cases h0 : 0 ≤ n
  case neg =>
    have HM : Hid (transF L n = []) := transF_no (by unfold transOk; simp [h0])
    go_enter Try.func153, Try.ntmps153
    go_wp2
    go_ret
    exact ⟨_, rfl, by rw [HM.out]; exact hI, hb⟩
  by_cases h5 : n ≤ 5
  case neg =>
    have HM : Hid (transF L n = []) := transF_no (by unfold transOk; simp [h5])
    go_enter Try.func153, Try.ntmps153
    go_wp2
    go_ret
    exact ⟨_, rfl, by rw [HM.out]; exact hI, hb⟩
  by_cases h100 : L.length ≤ 100
  case neg =>
    have HM : Hid (transF L n = []) := transF_no (by unfold transOk; simp [h100])
    go_enter Try.func153, Try.ntmps153
    go_wp2
    go_ret
    exact ⟨_, rfl, by rw [HM.out]; exact hI, hb⟩
  have hp := (pow_wrap h0 h5).1
  obtain ⟨hp1, hp2, hp3⟩ := pow_nat h0 h5
  have HT : Hid (L.all (isAttr n) = true → transF L n = minF (flt (hitsF L) (2 ^ n.toNat))) := fun h => by unfold transF transOk; rw [h]; simp [h0, h5, h100]
  have HN : Hid (L.all (isAttr n) = false → transF L n = []) := fun h => transF_no (by unfold transOk; rw [h]; simp)
  generalize hQ : (2 : Nat) ^ n.toNat = N at *
  have hp4 : wrap64 (2 ^ n.toNat) = N := by rw [hp, ← hp1]
  clear hp hp1 hQ
  go_enter Try.func153, Try.ntmps153
  go_wp2
  go_loopw [24] (fun i wr => ∃ k : Nat, i = .int .i64 k ∧ k ≤ L.length ∧ (L.take k).all (isAttr n) = true ∧ OwnI wr w.heap.size (.slice (some ⟨w.heap.size, 0, none⟩) 0 0) [] ∧ Below w.heap.size w wr) (fun i _ => L.length - (intOf i).toNat)
  case atStart => exact ⟨0, rfl, Nat.zero_le _, by simp, hI, hb⟩
  case round =>
    clear hI hb
    obtain ⟨k, rfl, hk, hall, hI, hb⟩ := hrel
    have HA : Hid ((L.take k).all (isAttr n) = true) := hall
    clear hall
    by_cases hlt : k < L.length
    · obtain ⟨b, off, rfl, hbs, hc⟩ := hL.at_ (by omega)
      have hc1 := cell_keep (hc k hlt) hb
      have HS : Hid ((L.take (k + 1)).all (isAttr n) = ((L.take k).all (isAttr n) && isAttr n (nth L k))) := all_take_succ _ L k hlt
      have HF : Hid (isAttr n (nth L k) = false → L.all (isAttr n) = false) := all_false _ L k hlt
      clear hc
      generalize nth L k = x at *
      cases hst : isAttr n x
      · go_wp2_with (first | (go_at_call 116; refine Calls.mono (Ans.eqb (c_isAttributes _ _ _) hst) ?_; rintro e w1 ⟨rfl, hbn⟩; replace hI := hI.keep hbn; replace hb := bel_to (w := w) (by first | exact hb | exact hb.alloc hb.size _ | exact (hb.alloc hb.size _).alloc (Nat.le_trans hb.size (by simp)) _ | exact hb.setCell (by simp [hb.size]) _) hbn; clear hbn))
        go_ret
        exact ⟨_, rfl, by rw [HN.out (HF.out hst)]; exact hI, hb⟩
      · go_wp2_with (first | (go_at_call 116; refine Calls.mono (Ans.eqb (c_isAttributes _ _ _) hst) ?_; rintro e w1 ⟨rfl, hbn⟩; replace hI := hI.keep hbn; replace hb := bel_to (w := w) (by first | exact hb | exact hb.alloc hb.size _ | exact (hb.alloc hb.size _).alloc (Nat.le_trans hb.size (by simp)) _ | exact hb.setCell (by simp [hb.size]) _) hbn; clear hbn))
        go_roundw
        case rel => exact ⟨k + 1, by go_num, by omega, by rw [HS.out, HA.out, hst]; rfl, hI, hb⟩
        case measure => simp [intOf]; omega
    · have hkk : k = L.length := by omega
      have HM : Hid (transF L n = minF (flt (hitsF L) N)) := HT.out (by have := HA.out; rw [hkk, List.take_length] at this; exact this)
      clear hkk
      go_wp2
      go_loopw [5, 8] (fun v i wr => ∃ k : Nat, i = .int .i64 k ∧ k ≤ N ∧ OwnI wr w.heap.size v (flt (hitsF L) k) ∧ Below w.heap.size w wr) (fun _ i _ => N - (intOf i).toNat)
      case atStart => exact ⟨0, rfl, Nat.zero_le _, hI, hb⟩
      case round =>
        clear hI hb
        obtain ⟨k, rfl, hk, hI, hb⟩ := hrel
        have HS : Hid (flt (hitsF L) (k + 1) = flt (hitsF L) k ++ (if hitsF L k then [(k : Int)] else [])) := flt_succ _ k
        have hle := flt_le (hitsF L) k
        by_cases hlt : k < N
        · cases hh : hitsF L (k : Int)
          · go_wp2_with (first | (go_at_call 190; refine Calls.mono (Ans.eqb (c_hits _ _ _ _ _ (hL.keep hb)) hh) ?_; rintro e w1 ⟨rfl, hbn⟩; replace hI := hI.keep hbn; replace hb := bel_to (w := w) (by first | exact hb | exact hb.alloc hb.size _ | exact (hb.alloc hb.size _).alloc (Nat.le_trans hb.size (by simp)) _ | exact hb.setCell (by simp [hb.size]) _) hbn; clear hbn))
            go_roundw
            case rel => exact ⟨k + 1, by go_num, by omega, by rw [HS.out, hh]; simpa using hI, hb⟩
            case measure => simp [intOf]; omega
          · go_wp2_with (first | (go_at_call 190; refine Calls.mono (Ans.eqb (c_hits _ _ _ _ _ (hL.keep hb)) hh) ?_; rintro e w1 ⟨rfl, hbn⟩; replace hI := hI.keep hbn; replace hb := bel_to (w := w) (by first | exact hb | exact hb.alloc hb.size _ | exact (hb.alloc hb.size _).alloc (Nat.le_trans hb.size (by simp)) _ | exact hb.setCell (by simp [hb.size]) _) hbn; clear hbn) | (at_builtin; refine wpList_append_own _ rfl _ _ 68 rfl w.heap.size 3 i0 (.int .i64 0) 1 8 Try.underlying68 hi hz0 hz1 hz2 rfl (by decide) _ _ _ rfl (World.ownsRow.alloc hI _) _ 1 1 [.int .i64 ((k : Int))] rfl rfl (by intro j u hj; match j, hj with | 0, hj => simp at hj; subst hj; simp [Addr.add]) (by intro u hu; simp at hu; subst hu; rfl) (by unfold maxLen; omega) (by omega) (by have := hb.size; simp; omega) ?_; intro v' w1 hown hgrow _; replace hb := (hb.alloc hb.size _).grown hgrow (by have := hb.size; simp; omega) (fun g hg => (World.ownsRow.lt hI g hg).1); replace hI := OwnI.snoc hown; clear hown hgrow))
            go_roundw
            case rel => exact ⟨k + 1, by go_num, by omega, by rw [HS.out, hh]; exact hI, hb⟩
            case measure => simp [intOf]; omega
        · have hkk : k = N := by omega
          have HK : Hid (k = N) := hkk
          clear hkk
          have hfr : (flt (hitsF L) k).length ≤ Room := by have := flt_le (hitsF L) k; unfold Room; omega
          obtain ⟨oF, cF, rfl, hcF, hnF⟩ := hI.cap
          have hF := hI.ints rfl hfr
          go_wp2_with fail
          refine (c_MinimalSets _ _ _ _ hF hnF).mono ?_
          rintro e w1 ⟨v1, rfl, hR, hbn⟩
          replace hR := hR.based hb.size
          replace hb := bel_to hb hbn
          clear hbn
          go_wp2
          go_ret
          exact ⟨_, rfl, by rw [HM.out, ← HK.out]; exact hR, hb⟩
end Go.Proofs.Ytjbmpnbfiahdhaa
namespace Go.Proofs.Ytjbmpnbfiahdhaa
open Go.RowKit
set_option linter.unusedVariables false
set_option maxRecDepth 100000

def edgesF (n : Int) (L : List Int) : List Int := L.map (dif (allM n))
def keysTF (n : Int) (R : List (List Int)) (m : Int) : List Int := if isTabF n R && modeF m then transF (edgesF n (agreeSetsF n R m)) n else []
theorem keysT_len (n : Int) (R : List (List Int)) (m : Int) : (keysTF n R m).length ≤ Room := by
  unfold keysTF
  split
  · exact transF_len _ _
  · simp
theorem edges_succ {n : Int} {L : List Int} {k : Nat} (h : k < L.length) : edgesF n (L.take (k + 1)) = edgesF n (L.take k) ++ [dif (allM n) (nth L k)] := map_take_succ (f := dif (allM n)) h
theorem empty_behind {w' : World} {B j : Nat} {v : Value} (h : w'.cell? ⟨B, j, none⟩ = some v) : OwnI (w'.alloc (.cells #[] 3)) (B + 1) (.slice (some ⟨w'.heap.size, 0, none⟩) 0 0) [] := OwnI.empty _ _ (World.block_lt_of_cell? _ _ h)
set_option maxHeartbeats 1600000 in
theorem c_KeysByTransversals (n : Int) (oa) (cap : Nat) (R : List (List Int)) (m : Int) (w : World) (hR : RowsAt w oa R) (hcap : R.length ≤ cap) :
    Calls Try.prog 75 #[.agg #[.int .i64 n, .slice oa R.length cap], .int .i64 m] w fun e w' => ∃ v, e = .returned v ∧ OwnI w' w.heap.size v (keysTF n R m) ∧ Below w.heap.size w w' := by
  obtain ⟨i0, hi, hz0, hz1, hz2⟩ := info_parts info_int
  have hb := (Below.refl w.heap.size w).alloc (Nat.le_refl _) (.cells #[.int .i64 n, .slice oa R.length cap] 26)
  have a0 := box_at w #[.int .i64 n, .slice oa R.length cap] 26 0 _ rfl
  have a1 := box_at w #[.int .i64 n, .slice oa R.length cap] 26 1 _ rfl
  cases ht : isTabF n R
  · have HM : Hid (keysTF n R m = []) := by show keysTF n R m = []; unfold keysTF; rw [ht]; rfl
    go_enter Try.func75, Try.ntmps75
    go_wp2_with (first | (go_at_call 67; refine Calls.mono (Ans.eqb (c_IsTable _ _ _ _ _ (hR.keep hb)) ht) ?_; rintro e w1 ⟨rfl, hbn⟩; replace a0 := cell_keep a0 hbn; replace a1 := cell_keep a1 hbn; replace hb := bel_to (w := w) (by first | exact hb | exact hb.alloc hb.size _ | exact (hb.alloc hb.size _).alloc (Nat.le_trans hb.size (by simp)) _ | exact hb.setCell (by simp [hb.size]) _) hbn; clear hbn))
    go_ret
    exact ⟨_, rfl, by rw [HM.out]; exact OwnI.nil _ _, hb⟩
  cases hm : modeF m
  · have HM : Hid (keysTF n R m = []) := by show keysTF n R m = []; unfold keysTF; rw [ht, hm]; rfl
    go_enter Try.func75, Try.ntmps75
    go_wp2_with (first | (go_at_call 67; refine Calls.mono (Ans.eqb (c_IsTable _ _ _ _ _ (hR.keep hb)) ht) ?_; rintro e w1 ⟨rfl, hbn⟩; replace a0 := cell_keep a0 hbn; replace a1 := cell_keep a1 hbn; replace hb := bel_to (w := w) (by first | exact hb | exact hb.alloc hb.size _ | exact (hb.alloc hb.size _).alloc (Nat.le_trans hb.size (by simp)) _ | exact hb.setCell (by simp [hb.size]) _) hbn; clear hbn) | (go_at_call 92; refine Calls.mono (Ans.eqb (c_isMode _ _) hm) ?_; rintro e w1 ⟨rfl, hbn⟩; replace a0 := cell_keep a0 hbn; replace a1 := cell_keep a1 hbn; replace hb := bel_to (w := w) (by first | exact hb | exact hb.alloc hb.size _ | exact (hb.alloc hb.size _).alloc (Nat.le_trans hb.size (by simp)) _ | exact hb.setCell (by simp [hb.size]) _) hbn; clear hbn))
    go_ret
    exact ⟨_, rfl, by rw [HM.out]; exact OwnI.nil _ _, hb⟩
  have HM : Hid (keysTF n R m = transF (edgesF n (agreeSetsF n R m)) n) := by show keysTF n R m = _; unfold keysTF; rw [ht, hm]; rfl
  obtain ⟨hn1, hn5, _, _⟩ := isTab_of ht
  have hp := (pow_wrap (n := n) (by omega) hn5).1
  have hp2 := (pow_wrap (n := n) (by omega) hn5).2.1
  have hp3 := (pow_wrap (n := n) (by omega) hn5).2.2
  have hgl := agreeSets_len n R m
  have HAll : Hid (allM n = 2 ^ n.toNat - 1) := rfl
  go_enter Try.func75, Try.ntmps75
  go_wp2_with (first | (go_at_call 67; refine Calls.mono (Ans.eqb (c_IsTable _ _ _ _ _ (hR.keep hb)) ht) ?_; rintro e w1 ⟨rfl, hbn⟩; replace a0 := cell_keep a0 hbn; replace a1 := cell_keep a1 hbn; replace hb := bel_to (w := w) (by first | exact hb | exact hb.alloc hb.size _ | exact (hb.alloc hb.size _).alloc (Nat.le_trans hb.size (by simp)) _ | exact hb.setCell (by simp [hb.size]) _) hbn; clear hbn) | (go_at_call 92; refine Calls.mono (Ans.eqb (c_isMode _ _) hm) ?_; rintro e w1 ⟨rfl, hbn⟩; replace a0 := cell_keep a0 hbn; replace a1 := cell_keep a1 hbn; have b0 := cell_al a0 (.cells #[] 3); have b1 := cell_al a1 (.cells #[] 3); have hI := empty_behind a1; replace hb := bel_to (w := w) (by first | exact hb | exact hb.alloc hb.size _ | exact (hb.alloc hb.size _).alloc (Nat.le_trans hb.size (by simp)) _ | exact hb.setCell (by simp [hb.size]) _) hbn; clear hbn))
  replace hb := hb.alloc hb.size (.cells #[] 3)
  clear a0 a1
  have old := hI
  refine (c_AgreeSets n _ _ R m _ (hR.keep hb) hcap).mono ?_
  rintro e w2 ⟨v2, rfl, hM, hbn⟩
  have ap_hM := (apart_old old hM).symm
  replace hI := hI.keep hbn
  replace hM := hM.based (World.block_lt_of_cell? _ _ b1)
  have a0 := cell_keep b0 hbn
  have a1 := cell_keep b1 hbn
  replace hb := bel_to hb hbn
  clear old hbn b0 b1
  generalize agreeSetsF n R m = M at *
  obtain ⟨o1, c1, rfl⟩ := hM.shape
  go_wp2
  go_loopw [5, 21] (fun v i wr => ∃ k : Nat, i = .int .i64 k ∧ k ≤ M.length ∧ OwnI wr (w.heap.size + 1) v (edgesF n (M.take k)) ∧ OwnI wr (w.heap.size + 1) (.slice o1 M.length c1) M ∧ Apart (.slice o1 M.length c1) v ∧ wr.cell? ⟨w.heap.size, 0, none⟩ = some (.int .i64 n) ∧ wr.cell? ⟨w.heap.size, 1, none⟩ = some (.slice oa R.length cap) ∧ Below w.heap.size w wr) (fun _ i _ => M.length - (intOf i).toNat)
  case atStart => exact ⟨0, rfl, Nat.zero_le _, by simpa [edgesF] using hI, hM, ap_hM, a0, a1, hb⟩
  case round =>
    clear hI hM ap_hM a0 a1 hb
    obtain ⟨k, rfl, hk, hI, hM, ap_hM, a0, a1, hb⟩ := hrel
    by_cases hlt : k < M.length
    · obtain ⟨b2, off2, rfl, hbs2, hca⟩ := (hM.ints rfl (by unfold Room; omega)).at_ (by omega)
      have hc2 := hca k hlt
      have HT : Hid (edgesF n (M.take (k + 1)) = edgesF n (M.take k) ++ [dif (allM n) (nth M k)]) := edges_succ hlt
      have hfl : (edgesF n (M.take k)).length ≤ 32 := by unfold edgesF; rw [List.length_map, List.length_take]; omega
      clear hca
      generalize nth M k = x at *
      generalize edgesF n (M.take k) = F at *
      go_wp2_with (first | (at_builtin; refine wpList_append_fresh rfl _ _ 68 rfl (w.heap.size + 1) 3 i0 (.int .i64 0) 1 8 Try.underlying68 hi hz0 hz1 hz2 rfl (by decide) _ _ _ rfl (World.ownsRow.alloc hI _) _ 1 1 [.int .i64 (bits BinOp.andNot .i64 (2 ^ n.toNat - 1) x)] rfl rfl (by intro j u hj; match j, hj with | 0, hj => simp at hj; subst hj; simp [Addr.add]) (by intro u hu; simp at hu; subst hu; rfl) (by unfold maxLen; omega) (by omega) (by have := World.block_lt_of_cell? _ _ a1; simp at this; simp; omega) ?_; intro v' w3 hown hgrow hfr; replace hb := (hb.alloc hb.size _).grown hgrow (by have := hb.size; simp; omega) (fun g hg => Nat.le_trans (Nat.le_succ _) (World.ownsRow.lt hI g hg).1); replace a0 := cell_gr (cell_al a0 _) (World.ownsRow.alloc hI _) (by omega) hgrow; replace a1 := cell_gr (cell_al a1 _) (World.ownsRow.alloc hI _) (by omega) hgrow; obtain ⟨hM, ap_hM⟩ := OwnI.past hM hgrow ap_hM hfr; replace hI := OwnI.snoc hown; clear hown hgrow hfr) | fail)
      go_roundw
      case rel => exact ⟨k + 1, by go_num, by omega, by rw [HT.out]; exact hI, hM, ap_hM, a0, a1, hb⟩
      case measure => simp [intOf]; omega
    · have hkk : k = M.length := by omega
      have HE : Hid (edgesF n (M.take k) = edgesF n M) := by show edgesF n (M.take k) = edgesF n M; rw [hkk, List.take_length]
      have hfr : (edgesF n (M.take k)).length ≤ Room := by unfold edgesF; rw [List.length_map, List.length_take]; unfold Room; omega
      clear hkk
      obtain ⟨oF, cF, rfl⟩ := hI.shape
      go_wp2_with fail
      refine (c_Transversals _ _ _ n _ (hI.ints rfl hfr)).mono ?_
      rintro e w3 ⟨v3, rfl, hR2, hbn⟩
      replace hR2 := hR2.based hb.size
      replace hb := bel_to hb hbn
      clear hbn
      go_wp2
      go_ret
      exact ⟨_, rfl, by rw [HM.out, ← HE.out]; exact hR2, hb⟩
end Go.Proofs.Ytjbmpnbfiahdhaa
namespace Go.Proofs.Ytjbmpnbfiahdhaa
open Go.RowKit
set_option linter.unusedVariables false
set_option maxRecDepth 100000

theorem and_swap {x l : Int} (hx : St x) (hl : St l) : (bits BinOp.and .i64 x l == l) = ins l x := by
  obtain ⟨n, hn, rfl⟩ := st_nat hx; obtain ⟨m, hm, rfl⟩ := st_nat hl
  have h : ∀ n < 32, ∀ m < 32, (bits BinOp.and .i64 ((n : Nat) : Int) ((m : Nat) : Int) == ((m : Nat) : Int)) = ins (m : Nat) (n : Nat) := by decide +kernel
  exact h n hn m hm
set_option maxHeartbeats 1600000 in
theorem c_l6Pair (n : Int) (oa) (cap : Nat) (R : List (List Int)) (m l r : Int) (w : World) (hR : RowsAt w oa R) (ht : isTabF n R = true) (hsl : St l) (hcr : Co r) :
    Calls Try.prog 110 #[.agg #[.int .i64 n, .slice oa R.length cap], .int .i64 m, .agg #[.int .i64 l, .int .i64 r]] w fun e w' => (∃ x y : Int, e = .returned (.tuple #[.int .i64 x, .int .i64 y]) ∧ decide (x < 0) = holdsF R m l r) ∧ Below w.heap.size w w' := by
  have hb := bel2 w (.cells #[.int .i64 n, .slice oa R.length cap] 26) (.cells #[.int .i64 l, .int .i64 r] 55)
  have a0 := two_a w #[.int .i64 n, .slice oa R.length cap] 26 #[.int .i64 l, .int .i64 r] 55 0 _ rfl
  have a1 := two_a w #[.int .i64 n, .slice oa R.length cap] 26 #[.int .i64 l, .int .i64 r] 55 1 _ rfl
  have d0 := two_b w #[.int .i64 n, .slice oa R.length cap] 26 #[.int .i64 l, .int .i64 r] 55 0 _ rfl
  have d1 := two_b w #[.int .i64 n, .slice oa R.length cap] 26 #[.int .i64 l, .int .i64 r] 55 1 _ rfl
  obtain ⟨hn1, hn5, hr40, hlen⟩ := isTab_of ht
  have hr1 := hcr.1
  have hr2 := hcr.2
  have HT : Hid (isTabF n R = true) := ht
  have HL : Hid (∀ k, k < R.length → ((row R k).length : Int) = n) := hlen
  have HH : Hid ((∀ i, i < R.length → ∀ k, k < R.length → i < k → violF R m l r i k = false) → holdsF R m l r = true) := fun h => decide_eq_true h
  have HN : Hid (∀ i k, i < k → k < R.length → violF R m l r i k = true → holdsF R m l r = false) := fun i k h1 h2 h3 => holdsF_no h1 h2 h3
  have HSL : Hid (St l ∧ Co r) := ⟨hsl, hcr⟩
  clear ht hlen hcr hsl
  go_enter Try.func110, Try.ntmps110
  go_wp2
  go_loopw [8] (fun i wr => ∃ k : Nat, i = .int .i64 k ∧ k ≤ R.length ∧ (∀ i, i < k → ∀ k, k < R.length → i < k → violF R m l r i k = false) ∧ wr.cell? ⟨w.heap.size, 0, none⟩ = some (.int .i64 n) ∧ wr.cell? ⟨w.heap.size, 1, none⟩ = some (.slice oa R.length cap) ∧ wr.cell? ⟨w.heap.size + 1, 0, none⟩ = some (.int .i64 l) ∧ wr.cell? ⟨w.heap.size + 1, 1, none⟩ = some (.int .i64 r) ∧ Below w.heap.size w wr) (fun i _ => R.length - (intOf i).toNat)
  case atStart => exact ⟨0, rfl, Nat.zero_le _, fun i hi => absurd hi (by omega), a0, a1, d0, d1, hb⟩
  case round =>
    clear a0 a1 d0 d1 hb
    obtain ⟨i, rfl, hi, hall, a0, a1, d0, d1, hb⟩ := hrel
    have HA : Hid (∀ i', i' < i → ∀ k, k < R.length → i' < k → violF R m l r i' k = false) := hall
    clear hall
    by_cases hlt : i < R.length
    · go_wp2
      go_loopw [9] (fun i' wr => ∃ k : Nat, i' = .int .i64 k ∧ i < k ∧ k ≤ R.length ∧ (∀ k', k' < k → i < k' → violF R m l r i k' = false) ∧ wr.cell? ⟨w.heap.size, 0, none⟩ = some (.int .i64 n) ∧ wr.cell? ⟨w.heap.size, 1, none⟩ = some (.slice oa R.length cap) ∧ wr.cell? ⟨w.heap.size + 1, 0, none⟩ = some (.int .i64 l) ∧ wr.cell? ⟨w.heap.size + 1, 1, none⟩ = some (.int .i64 r) ∧ Below w.heap.size w wr) (fun i _ => R.length - (intOf i).toNat)
      case atStart => exact ⟨i + 1, by go_num, by omega, by omega, fun k' h1 h2 => absurd h1 (by omega), a0, a1, d0, d1, hb⟩
      case round =>
        clear a0 a1 d0 d1 hb
        obtain ⟨k, rfl, hik, hk, hall, a0, a1, d0, d1, hb⟩ := hrel
        have HI : Hid (∀ k', k' < k → i < k' → violF R m l r i k' = false) := hall
        clear hall
        by_cases hlk : k < R.length
        · have HV : Hid (violF R m l r i k = (ins l (agreeF m (row R i) (row R k)) && !hasc (agreeF m (row R i) (row R k)) r)) := rfl
          have HS : Hid (St (agreeF m (row R i) (row R k))) := agreeF_st (by have := HL.out i hlt; omega)
          go_wp2_with fail
          refine Calls.mono (c_l4Agree n _ _ _ m i k _ (hR.keep hb) HT.out hlt hlk) ?_
          rintro e w1 ⟨rfl, hbn⟩
          replace a0 := cell_keep a0 hbn
          replace a1 := cell_keep a1 hbn
          replace d0 := cell_keep d0 hbn
          replace d1 := cell_keep d1 hbn
          replace hb := bel_to hb hbn
          clear hbn
          generalize agreeF m (row R i) (row R k) = x at *
          cases h1 : ins l x
          · have h1' : (bits BinOp.and .i64 x l == l) = false := (and_swap HS.out HSL.out.1).trans h1
            go_wp2
            go_roundw
            case rel => exact ⟨k + 1, by go_num, by omega, by omega, lt_step (p := fun k' => i < k' → violF R m l r i k' = false) HI.out (fun _ => by rw [HV.out, h1]; rfl), a0, a1, d0, d1, hb⟩
            case measure => simp [intOf]; omega
          · have h1' : (bits BinOp.and .i64 x l == l) = true := (and_swap HS.out HSL.out.1).trans h1
            cases h2 : hasc x r
            · have h2' : (bits BinOp.and .i64 (x / 2 ^ r.toNat) 1 == 0) = true := (hasn_eq HS.out HSL.out.2).trans (by rw [h2]; rfl)
              go_wp2
              go_ret2
              exact ⟨⟨_, _, rfl, by rw [HN.out i k hik hlk (by rw [HV.out, h1, h2]; rfl)]; simp⟩, hb⟩
            · have h2' : (bits BinOp.and .i64 (x / 2 ^ r.toNat) 1 == 0) = false := (hasn_eq HS.out HSL.out.2).trans (by rw [h2]; rfl)
              go_wp2
              go_roundw
              case rel => exact ⟨k + 1, by go_num, by omega, by omega, lt_step (p := fun k' => i < k' → violF R m l r i k' = false) HI.out (fun _ => by rw [HV.out, h1, h2]; rfl), a0, a1, d0, d1, hb⟩
              case measure => simp [intOf]; omega
        · have HI2 : Hid (∀ k', k' < R.length → i < k' → violF R m l r i k' = false) := fun k' h1 h2 => HI.out k' (by omega) h2
          go_wp2
          go_roundw
          case rel => exact ⟨i + 1, by go_num, by omega, lt_step (p := fun i => ∀ k, k < R.length → i < k → violF R m l r i k = false) HA.out HI2.out, a0, a1, d0, d1, hb⟩
          case measure => simp [intOf]; omega
    · have HE : Hid (holdsF R m l r = true) := HH.out fun i' h1 => HA.out i' (by omega)
      go_wp2
      go_ret2
      exact ⟨⟨_, _, rfl, by rw [HE.out]; rfl⟩, hb⟩
theorem c_l7Holds (n : Int) (oa) (cap : Nat) (R : List (List Int)) (m l r : Int) (w : World) (hR : RowsAt w oa R) (ht : isTabF n R = true) (hsl : St l) (hcr : Co r) :
    Ans Try.prog 164 #[.agg #[.int .i64 n, .slice oa R.length cap], .int .i64 m, .agg #[.int .i64 l, .int .i64 r]] w (.bool (holdsF R m l r)) := by
  unfold Ans
  have hb := bel2 w (.cells #[.int .i64 n, .slice oa R.length cap] 26) (.cells #[.int .i64 l, .int .i64 r] 55)
  have hW := c_l6Pair n oa cap R m l r _ (hR.keep hb) ht hsl hcr
  go_enter Try.func164, Try.ntmps164
  go_wp2_with fail
  refine hW.mono ?_
  rintro e w1 ⟨⟨x, y, rfl, hx⟩, hbn⟩
  replace hb := bel_to hb hbn
  clear hbn
  go_wp2
  go_ret
  exact ⟨rfl, hb⟩
theorem c_specHoldsDep (n : Int) (oa) (cap : Nat) (R : List (List Int)) (m l r : Int) (w : World) (hR : RowsAt w oa R) :
    Ans Try.prog 40 #[.agg #[.int .i64 n, .slice oa R.length cap], .int .i64 m, .agg #[.int .i64 l, .int .i64 r]] w (.bool (askF n R m l r && holdsF R m l r)) := by
  unfold Ans
  have hb := bel2 w (.cells #[.int .i64 n, .slice oa R.length cap] 26) (.cells #[.int .i64 l, .int .i64 r] 55)
  have a0 := two_a w #[.int .i64 n, .slice oa R.length cap] 26 #[.int .i64 l, .int .i64 r] 55 0 _ rfl
  have a1 := two_a w #[.int .i64 n, .slice oa R.length cap] 26 #[.int .i64 l, .int .i64 r] 55 1 _ rfl
  have d0 := two_b w #[.int .i64 n, .slice oa R.length cap] 26 #[.int .i64 l, .int .i64 r] 55 0 _ rfl
  have d1 := two_b w #[.int .i64 n, .slice oa R.length cap] 26 #[.int .i64 l, .int .i64 r] 55 1 _ rfl
  cases hf : (isTabF n R && modeF m)
  · have HM : Hid (askF n R m l r = false) := by show askF n R m l r = false; unfold askF; rw [hf]; rfl
    go_enter Try.func40, Try.ntmps40
    go_wp2_with (first | (go_at_call 89; refine Calls.mono (Ans.eqb (c_l4Fine _ _ _ _ _ _ (hR.keep hb)) hf) ?_; rintro e w1 ⟨rfl, hbn⟩; replace a0 := cell_keep a0 hbn; replace a1 := cell_keep a1 hbn; replace d0 := cell_keep d0 hbn; replace d1 := cell_keep d1 hbn; replace hb := bel_to (w := w) (by first | exact hb | exact hb.alloc hb.size _ | exact (hb.alloc hb.size _).alloc (Nat.le_trans hb.size (by simp)) _ | exact hb.setCell (by simp [hb.size]) _) hbn; clear hbn))
    go_ret
    exact ⟨ret_bool (by rw [HM.out]; rfl), hb⟩
  · cases hd : isDepF n l r
    · have HM : Hid (askF n R m l r = false) := by show askF n R m l r = false; unfold askF; rw [hf, hd]; rfl
      go_enter Try.func40, Try.ntmps40
      go_wp2_with (first | (go_at_call 89; refine Calls.mono (Ans.eqb (c_l4Fine _ _ _ _ _ _ (hR.keep hb)) hf) ?_; rintro e w1 ⟨rfl, hbn⟩; replace a0 := cell_keep a0 hbn; replace a1 := cell_keep a1 hbn; replace d0 := cell_keep d0 hbn; replace d1 := cell_keep d1 hbn; replace hb := bel_to (w := w) (by first | exact hb | exact hb.alloc hb.size _ | exact (hb.alloc hb.size _).alloc (Nat.le_trans hb.size (by simp)) _ | exact hb.setCell (by simp [hb.size]) _) hbn; clear hbn) | (go_at_call 38; refine Calls.mono (Ans.eqb (c_specIsDep _ _ _ _) hd) ?_; rintro e w1 ⟨rfl, hbn⟩; replace a0 := cell_keep a0 hbn; replace a1 := cell_keep a1 hbn; replace d0 := cell_keep d0 hbn; replace d1 := cell_keep d1 hbn; replace hb := bel_to (w := w) (by first | exact hb | exact hb.alloc hb.size _ | exact (hb.alloc hb.size _).alloc (Nat.le_trans hb.size (by simp)) _ | exact hb.setCell (by simp [hb.size]) _) hbn; clear hbn))
      go_ret
      exact ⟨ret_bool (by rw [HM.out]; rfl), hb⟩
    · have HM : Hid (askF n R m l r = true) := by show askF n R m l r = true; unfold askF; rw [hf, hd]; rfl
      have ht : isTabF n R = true := by have := hf; simp only [Bool.and_eq_true] at this; exact this.1
      obtain ⟨hsl, hcr⟩ := dep_of hd (isTab_of ht).2.1
      have HW : Hid (∀ w' : World, RowsAt w' oa R → Calls Try.prog 110 #[.agg #[.int .i64 n, .slice oa R.length cap], .int .i64 m, .agg #[.int .i64 l, .int .i64 r]] w' fun e w'' => (∃ x y : Int, e = .returned (.tuple #[.int .i64 x, .int .i64 y]) ∧ decide (x < 0) = holdsF R m l r) ∧ Below w'.heap.size w' w'') := fun w' h => c_l6Pair n oa cap R m l r w' h ht hsl hcr
      clear ht hsl hcr
      go_enter Try.func40, Try.ntmps40
      go_wp2_with (first | (go_at_call 89; refine Calls.mono (Ans.eqb (c_l4Fine _ _ _ _ _ _ (hR.keep hb)) hf) ?_; rintro e w1 ⟨rfl, hbn⟩; replace a0 := cell_keep a0 hbn; replace a1 := cell_keep a1 hbn; replace d0 := cell_keep d0 hbn; replace d1 := cell_keep d1 hbn; replace hb := bel_to (w := w) (by first | exact hb | exact hb.alloc hb.size _ | exact (hb.alloc hb.size _).alloc (Nat.le_trans hb.size (by simp)) _ | exact hb.setCell (by simp [hb.size]) _) hbn; clear hbn) | (go_at_call 38; refine Calls.mono (Ans.eqb (c_specIsDep _ _ _ _) hd) ?_; rintro e w1 ⟨rfl, hbn⟩; replace a0 := cell_keep a0 hbn; replace a1 := cell_keep a1 hbn; replace d0 := cell_keep d0 hbn; replace d1 := cell_keep d1 hbn; replace hb := bel_to (w := w) (by first | exact hb | exact hb.alloc hb.size _ | exact (hb.alloc hb.size _).alloc (Nat.le_trans hb.size (by simp)) _ | exact hb.setCell (by simp [hb.size]) _) hbn; clear hbn))
      refine (HW.out _ (hR.keep hb)).mono ?_
      rintro e w1 ⟨⟨x, y, rfl, hx⟩, hbn⟩
      replace hb := bel_to hb hbn
      clear hbn
      go_wp2
      go_ret
      exact ⟨ret_bool (by rw [HM.out]; rfl), hb⟩
end Go.Proofs.Ytjbmpnbfiahdhaa
namespace Go.Proofs.Ytjbmpnbfiahdhaa
open Go.RowKit
set_option linter.unusedVariables false
set_option maxRecDepth 100000

def bordP (R : List (List Int)) (m r x : Int) : Bool := !hasc x r && !holdsF R m x r
def bordOk (n : Int) (R : List (List Int)) (m r : Int) : Bool := (isTabF n R && modeF m) && (decide (0 ≤ r) && decide (r < n))
def bordF (n : Int) (R : List (List Int)) (m r : Int) : List Int := if bordOk n R m r then maxF (flt (bordP R m r) (2 ^ n.toNat)) else []
theorem bord_len (n : Int) (R : List (List Int)) (m r : Int) : (bordF n R m r).length ≤ Room := by
  unfold bordF
  split
  · have := maxF_len (flt (bordP R m r) (2 ^ n.toNat)); unfold Room; omega
  · simp
theorem all_same {p : Int → Bool} {L M : List Int} (h : ∀ x, x ∈ L ↔ x ∈ M) : L.all p = M.all p := by
  rw [Bool.eq_iff_iff, List.all_eq_true, List.all_eq_true]
  exact ⟨fun H x hx => H x ((h x).2 hx), fun H x hx => H x ((h x).1 hx)⟩
theorem maxF_same {L M : List Int} (h : ∀ x, x ∈ L ↔ x ∈ M) (hl : L.length ≤ 100) (hm : M.length ≤ 100) : maxF L = maxF M := by
  unfold maxF
  have e1 : setsF L = setsF M := all_same h
  have e2 : (fun x => inB' L x && maxB L x) = fun x => inB' M x && maxB M x := by
    funext x
    unfold inB' maxB
    rw [all_same h]
    congr 1
    rw [decide_eq_decide]
    exact h x
  rw [e1, e2]
  simp [hl, hm]
theorem bord_dep {n : Int} {R : List (List Int)} {m r x : Int} (h : bordOk n R m r = true) (h0 : 0 ≤ x) (hx : x < 2 ^ n.toNat) : askF n R m x r = true ∧ St x := by
  unfold bordOk at h
  simp only [Bool.and_eq_true, decide_eq_true_eq] at h
  obtain ⟨⟨ht, hm⟩, hr0, hrn⟩ := h
  obtain ⟨h1, h5, _, _⟩ := isTab_of ht
  have hp := (pow_wrap (n := n) (by omega) h5).2.1
  refine ⟨?_, ⟨h0, by omega⟩⟩
  unfold askF isDepF isAttr
  rw [ht, hm]
  simp only [Bool.and_eq_true, decide_eq_true_eq, Bool.and_self, Bool.true_and]
  exact ⟨⟨⟨h1, ⟨⟨⟨by omega, h5⟩, h0⟩, hx⟩⟩, hr0⟩, hrn⟩
end Go.Proofs.Ytjbmpnbfiahdhaa
namespace Go.Proofs.Ytjbmpnbfiahdhaa
open Go.RowKit
set_option linter.unusedVariables false
set_option maxRecDepth 100000

def sameB (R : List (List Int)) (m s : Int) (i k : Nat) : Bool := ins s (agreeF m (row R i) (row R k))
def tkQ (q : Nat → Nat → Bool) (i k : Nat) : Bool := (List.range i).any fun j => decide (j < k) && q j k
def clsTo (q : Nat → Nat → Bool) (i t : Nat) : List Int := (i : Int) :: (((List.range t).filter fun k => decide (i < k) && q i k).map fun (k : Nat) => (k : Int))
def headQ (q : Nat → Nat → Bool) (N j : Nat) : Bool := !tkQ q j j && decide (1 < (clsTo q j N).length)
def ptnQ (q : Nat → Nat → Bool) (N i : Nat) : List (List Int) := ((List.range i).filter (headQ q N)).map fun j => clsTo q j N
/-- What lies in one class with the same row lies in one class. -/
structure Per (q : Nat → Nat → Bool) (N : Nat) : Prop where
  tr : ∀ i j k, i < N → j < N → q i j = true → q j k = true → q i k = true
  eu : ∀ i j k, i < N → j < N → q j k = true → q i k = true → q j i = true
def ptnOk (n : Int) (R : List (List Int)) (m s : Int) : Bool := (isTabF n R && modeF m) && isAttr n s
def ptnF (n : Int) (R : List (List Int)) (m s : Int) : List (List Int) := if ptnOk n R m s then ptnQ (sameB R m s) R.length R.length else []

theorem eqCell_iff {m a b : Int} : eqCellF m a b = true ↔ modeF m = true ∧ a = b ∧ (m = 0 ∨ a ≠ -1) := by
  unfold eqCellF; simp
theorem eqCell_trans {m a b c : Int} (h : eqCellF m a b = true) (k : eqCellF m b c = true) : eqCellF m a c = true := by
  rw [eqCell_iff] at *
  obtain ⟨h1, rfl, h3⟩ := h
  exact ⟨h1, k.2.1, h3⟩
theorem eqCell_symm {m a b : Int} (h : eqCellF m a b = true) : eqCellF m b a = true := by
  rw [eqCell_iff] at *
  obtain ⟨h1, rfl, h3⟩ := h
  exact ⟨h1, rfl, h3⟩
theorem eqCell_euc {m a b c : Int} (h : eqCellF m a b = true) (k : eqCellF m c b = true) : eqCellF m a c = true := eqCell_trans h (eqCell_symm k)
theorem hasc_agreeTo {m : Int} {A B : List Int} {c : Int} (hc : Co c) : ∀ k, k ≤ 5 → hasc ((List.range k).foldl (agreeStep m A B) 0) c = (decide (c.toNat < k) && eqCellF m (nth A c.toNat) (nth B c.toNat))
  | 0, _ => by
    obtain ⟨j, hj, rfl⟩ := co_nat hc
    have h : ∀ j < 5, hasc 0 ((j : Nat) : Int) = false := by decide +kernel
    simp [h j hj]
  | k + 1, hk => by
    have ih := hasc_agreeTo (m := m) (A := A) (B := B) hc k (by omega)
    have hst : ∀ k, k ≤ 5 → St ((List.range k).foldl (agreeStep m A B) 0) := by
      intro k
      induction k with
      | zero => intro _; exact ⟨by simp, by simp⟩
      | succ k ih => intro hk; rw [range_succ_fold]; exact agreeStep_st (ih (by omega)) (by omega)
    rw [range_succ_fold]
    generalize hx : (List.range k).foldl (agreeStep m A B) 0 = x at *
    have hs : St x := by rw [← hx]; exact hst k (by omega)
    have hck : Co (k : Int) := ⟨by omega, by omega⟩
    have hc0 := hc.1
    unfold agreeStep
    by_cases e : c.toNat = k
    · have ec : c = (k : Int) := by omega
      subst ec
      cases he : eqCellF m (nth A k) (nth B k)
      · simp [ih, he]
      · simp only [if_true]
        rw [hasc_uni hs (one_st hck) hck, hasc_one hck hck]
        simp [he]
    · have e1 : decide (c.toNat < k + 1) = decide (c.toNat < k) := by rw [decide_eq_decide]; omega
      rw [e1, ← ih]
      split
      · rw [hasc_uni hs (one_st hck) hc, hasc_one hck hc]
        have : ((k : Int) == c) = false := by simp; omega
        rw [this, Bool.or_false]
      · rfl
theorem hasc_agree {m : Int} {A B : List Int} {c : Int} (hc : Co c) (h : A.length ≤ 5) : hasc (agreeF m A B) c = (decide (c.toNat < A.length) && eqCellF m (nth A c.toNat) (nth B c.toNat)) := hasc_agreeTo hc _ h
theorem same_iff {n : Int} {R : List (List Int)} {m s : Int} {i k : Nat} (ht : isTabF n R = true) (hs : St s) (hi : i < R.length) :
    sameB R m s i k = true ↔ ∀ c, Co c → hasc s c = true → c.toNat < n.toNat ∧ eqCellF m (nth (row R i) c.toNat) (nth (row R k) c.toNat) = true := by
  obtain ⟨hn1, hn5, _, hl⟩ := isTab_of ht
  have li := hl i hi
  have hA : (row R i).length ≤ 5 := by omega
  unfold sameB
  rw [ins_iff hs (agreeF_st hA)]
  refine ⟨fun h c hc h1 => ?_, fun h c hc h1 => ?_⟩
  · have h2 := h c hc h1
    rw [hasc_agree hc hA] at h2
    simp only [Bool.and_eq_true, decide_eq_true_eq] at h2
    exact ⟨by omega, h2.2⟩
  · obtain ⟨h2, h3⟩ := h c hc h1
    rw [hasc_agree hc hA, h3, decide_eq_true (show c.toNat < (row R i).length by omega)]; rfl
theorem same_trans {n : Int} {R : List (List Int)} {m s : Int} {i j k : Nat} (ht : isTabF n R = true) (hs : St s) (hi : i < R.length) (hj : j < R.length) (h1 : sameB R m s i j = true) (h2 : sameB R m s j k = true) : sameB R m s i k = true := by
  have q1 := (same_iff ht hs hi).1 h1
  have q2 := (same_iff ht hs hj).1 h2
  refine (same_iff ht hs hi).2 fun c hc h => ?_
  exact ⟨(q1 c hc h).1, eqCell_trans (q1 c hc h).2 (q2 c hc h).2⟩
theorem same_euc {n : Int} {R : List (List Int)} {m s : Int} {i j k : Nat} (ht : isTabF n R = true) (hs : St s) (hi : i < R.length) (hj : j < R.length) (h1 : sameB R m s j k = true) (h2 : sameB R m s i k = true) : sameB R m s j i = true := by
  have q1 := (same_iff ht hs hj).1 h1
  have q2 := (same_iff ht hs hi).1 h2
  refine (same_iff ht hs hj).2 fun c hc h => ?_
  exact ⟨(q1 c hc h).1, eqCell_euc (q1 c hc h).2 (q2 c hc h).2⟩
theorem same_per {n : Int} {R : List (List Int)} {m s : Int} (ht : isTabF n R = true) (hs : St s) : Per (sameB R m s) R.length :=
  ⟨fun _ _ _ hi hj => same_trans ht hs hi hj, fun _ _ _ hi hj => same_euc ht hs hi hj⟩
theorem tk_succ (q : Nat → Nat → Bool) (i k : Nat) : tkQ q (i + 1) k = (tkQ q i k || (decide (i < k) && q i k)) := by
  unfold tkQ; rw [List.range_succ, List.any_append]; simp
theorem tk_iff {q : Nat → Nat → Bool} {i k : Nat} : tkQ q i k = true ↔ ∃ j, j < i ∧ j < k ∧ q j k = true := by
  unfold tkQ
  rw [List.any_eq_true]
  simp only [List.mem_range, Bool.and_eq_true, decide_eq_true_eq]
theorem tk_taken {q : Nat → Nat → Bool} {N i : Nat} (hp : Per q N) (hi : i < N) (h : tkQ q i i = true) (k : Nat) : tkQ q (i + 1) k = tkQ q i k := by
  rw [tk_succ]
  cases e : (decide (i < k) && q i k)
  · simp
  · simp only [Bool.and_eq_true, decide_eq_true_eq] at e
    obtain ⟨j, hj, _, h1⟩ := tk_iff.1 h
    have : tkQ q i k = true := tk_iff.2 ⟨j, hj, by omega, hp.tr _ _ _ (by omega) hi h1 e.2⟩
    rw [this]; rfl
theorem tk_free {q : Nat → Nat → Bool} {N i k : Nat} (hp : Per q N) (hi : i < N) (h : tkQ q i i = false) (hk : q i k = true) : tkQ q i k = false := by
  cases e : tkQ q i k
  · rfl
  · obtain ⟨j, hj, _, h1⟩ := tk_iff.1 e
    have : tkQ q i i = true := tk_iff.2 ⟨j, hj, hj, hp.eu _ _ _ hi (by omega) h1 hk⟩
    rw [h] at this; cases this
theorem cls_succ (q : Nat → Nat → Bool) (i t : Nat) : clsTo q i (t + 1) = clsTo q i t ++ (if decide (i < t) && q i t then [(t : Int)] else []) := by
  unfold clsTo
  rw [List.range_succ, List.filter_append, List.map_append, List.cons_append]
  congr 2
  cases h : (decide (i < t) && q i t) <;> simp [h]
theorem cls_first (q : Nat → Nat → Bool) (i : Nat) : clsTo q i (i + 1) = [(i : Int)] := by
  unfold clsTo
  have : (List.range (i + 1)).filter (fun k => decide (i < k) && q i k) = [] := by
    rw [List.filter_eq_nil_iff]
    intro k hk
    have := List.mem_range.1 hk
    rw [decide_eq_false (show ¬ i < k by omega)]; simp
  rw [this]; rfl
theorem cls_len (q : Nat → Nat → Bool) (i t : Nat) : (clsTo q i t).length ≤ t + 1 := by
  unfold clsTo
  rw [List.length_cons, List.length_map]
  have := List.length_filter_le (fun k => decide (i < k) && q i k) (List.range t)
  rw [List.length_range] at this
  omega
theorem cls_mem {q : Nat → Nat → Bool} {i t : Nat} {x : Int} : x ∈ clsTo q i t ↔ x = i ∨ ∃ k : Nat, x = k ∧ k < t ∧ i < k ∧ q i k = true := by
  unfold clsTo
  rw [List.mem_cons, List.mem_map]
  simp only [List.mem_filter, List.mem_range, Bool.and_eq_true, decide_eq_true_eq]
  constructor
  · rintro (h | ⟨k, ⟨h1, h2, h3⟩, rfl⟩)
    · exact .inl h
    · exact .inr ⟨k, rfl, h1, h2, h3⟩
  · rintro (h | ⟨k, rfl, h1, h2, h3⟩)
    · exact .inl h
    · exact .inr ⟨k, ⟨h1, h2, h3⟩, rfl⟩
theorem ptn_succ (q : Nat → Nat → Bool) (N i : Nat) : ptnQ q N (i + 1) = ptnQ q N i ++ (if headQ q N i then [clsTo q i N] else []) := by
  unfold ptnQ
  rw [List.range_succ, List.filter_append, List.map_append]
  cases h : headQ q N i <;> simp [h]
theorem ptn_len (q : Nat → Nat → Bool) (N i : Nat) : (ptnQ q N i).length ≤ i := by
  unfold ptnQ
  rw [List.length_map]
  have := List.length_filter_le (headQ q N) (List.range i)
  rw [List.length_range] at this
  omega
theorem ptn_mem {q : Nat → Nat → Bool} {N i : Nat} {C : List Int} : C ∈ ptnQ q N i ↔ ∃ j, j < i ∧ headQ q N j = true ∧ C = clsTo q j N := by
  unfold ptnQ
  rw [List.mem_map]
  simp only [List.mem_filter, List.mem_range]
  constructor
  · rintro ⟨j, ⟨h1, h2⟩, rfl⟩; exact ⟨j, h1, h2, rfl⟩
  · rintro ⟨j, h1, h2, rfl⟩; exact ⟨j, ⟨h1, h2⟩, rfl⟩
theorem ptn_row {q : Nat → Nat → Bool} {N i j : Nat} (hj : j < (ptnQ q N i).length) : (row (ptnQ q N i) j).length ≤ N + 1 := by
  obtain ⟨k, _, _, e⟩ := ptn_mem.1 (row_mem hj)
  rw [e]; exact cls_len ..
theorem ptn_flat {q : Nat → Nat → Bool} {N : Nat} (hp : Per q N) {i k : Nat} (hik : i ≤ k) (hk : k < N) : (k : Int) ∈ (ptnQ q N i).flatten ↔ tkQ q i k = true := by
  rw [List.mem_flatten]
  constructor
  · rintro ⟨C, hC, hx⟩
    obtain ⟨j, hj, _, rfl⟩ := ptn_mem.1 hC
    rcases cls_mem.1 hx with e | ⟨t, e, _, h2, h3⟩
    · omega
    · have : t = k := by omega
      subst this
      exact tk_iff.2 ⟨j, hj, h2, h3⟩
  · intro h
    have hex : ∃ j, j < i ∧ j < k ∧ q j k = true := tk_iff.1 h
    have hmin : ∃ j, (j < i ∧ j < k ∧ q j k = true) ∧ ∀ t, t < j → ¬ (t < i ∧ t < k ∧ q t k = true) := by
      obtain ⟨j, hj⟩ := hex
      induction j using Nat.strongRecOn with
      | _ j ih =>
        by_cases hq : ∃ t, t < j ∧ (t < i ∧ t < k ∧ q t k = true)
        · obtain ⟨t, h1, h2⟩ := hq; exact ih t h1 h2
        · exact ⟨j, hj, fun t h1 h2 => hq ⟨t, h1, h2⟩⟩
    obtain ⟨j, ⟨h1, h2, h3⟩, hlow⟩ := hmin
    have hm : (k : Int) ∈ clsTo q j N := cls_mem.2 (.inr ⟨k, rfl, hk, h2, h3⟩)
    refine ⟨clsTo q j N, ptn_mem.2 ⟨j, h1, ?_, rfl⟩, hm⟩
    unfold headQ
    have e1 : tkQ q j j = false := by
      cases e : tkQ q j j
      · rfl
      · obtain ⟨t, h4, _, h5⟩ := tk_iff.1 e
        exact absurd ⟨by omega, by omega, hp.tr _ _ _ (by omega) (by omega) h5 h3⟩ (hlow t h4)
    rw [e1]
    have : 1 < (clsTo q j N).length := by
      have hm2 := hm
      unfold clsTo at hm2 ⊢
      rw [List.mem_cons] at hm2
      rcases hm2 with e | hm2
      · omega
      · rw [List.length_cons]
        have := List.length_pos_of_mem hm2
        omega
    simp [this]
theorem flat_len {q : Nat → Nat → Bool} {N : Nat} (hN : N ≤ 40) (i : Nat) : ((ptnQ q N i).flatten).length ≤ 41 * i := by
  induction i with
  | zero => simp [ptnQ]
  | succ i ih =>
    rw [ptn_succ, List.flatten_append, List.length_append]
    have h2 := cls_len q i N
    have h3 : ((if headQ q N i then [clsTo q i N] else []).flatten).length ≤ 41 := by
      split
      · simp only [List.flatten_cons, List.flatten_nil, List.append_nil]; omega
      · simp
    omega
end Go.Proofs.Ytjbmpnbfiahdhaa
namespace Go.Proofs.Ytjbmpnbfiahdhaa
open Go.RowKit
set_option linter.unusedVariables false
set_option maxRecDepth 100000

theorem c_eqIntSS (oa ob) (ca cb : Nat) (R : List (List Int)) (w : World) (hA : RowsAt w oa R) (hB : RowsAt w ob R) :
    Ans Try.prog 84 #[.slice oa R.length ca, .slice ob R.length cb] w (.bool true) := by
  unfold Ans
  have hn : R.length ≤ 1073741824 := hA.len
  have hne : ((R.length : Int) != R.length) = false := by simp
  go_enter Try.func84, Try.ntmps84
  go_wp2
  go_loopw [5] (fun i wr => ∃ k : Nat, i = .int .i64 k ∧ k ≤ R.length ∧ Below w.heap.size w wr) (fun i _ => R.length - (intOf i).toNat)
  case atStart => exact ⟨0, rfl, Nat.zero_le _, Below.refl _ _⟩
  case round =>
    obtain ⟨k, rfl, hk, hb⟩ := hrel
    by_cases hlt : k < R.length
    · obtain ⟨b1, off1, rfl, hbs1, hca⟩ := hA.at_ (by omega)
      obtain ⟨b2, off2, rfl, hbs2, hcb⟩ := hB.at_ (by omega)
      obtain ⟨o1, c1, h1, hr1⟩ := hca k hlt
      obtain ⟨o2, c2, h2, hr2⟩ := hcb k hlt
      have hc1 := cell_keep h1 hb
      have hc2 := cell_keep h2 hb
      have hx1 := fun (x : After wr) => (hr1.keep hb).keep x.bel
      have hx2 := fun (x : After wr) => (hr2.keep hb).keep x.bel
      clear hca hcb h1 h2 hr1 hr2
      go_wp2_with fail
      (refine wp_region_after (by kernel_rfl) (by kernel_rfl) ?_; have q_hc1 := fun (x : After _) => cell_keep hc1 x.bel; have q_hc2 := fun (x : After _) => cell_keep hc2 x.bel; (repeat (go_big_quiet_step ((first | (go_at_call 155; exact Ans.after (Ans.eqb (b' := true) (c_eqIntS _ _ _ _ _ _ _ (hx1 _) (hx2 _)) (by simp))))))); clear q_hc1; clear q_hc2; refine wpQuiet_nil ?_; rintro _ ⟨⟨w1, hbn⟩, rfl⟩; (try simp only [After.w]); replace hc1 := cell_keep hc1 hbn; replace hc2 := cell_keep hc2 hbn; replace hb := bel_to (w := w) (by first | exact hb | exact hb.alloc hb.size _ | exact (hb.alloc hb.size _).alloc (Nat.le_trans hb.size (by simp)) _ | exact hb.setCell (by simp [hb.size]) _) hbn; clear hbn)
      go_wp2
      go_roundw
      case rel => exact ⟨k + 1, by go_num, by omega, hb⟩
      case measure => simp [intOf]; omega
    · go_wp2
      go_ret
      exact ⟨rfl, hb⟩

def tabV (n : Int) (o : Option Addr) (l c : Nat) : Value := .agg #[.int .i64 n, .slice o l c]
theorem c_szTable (n : Int) (oa) (l cap : Nat) (Ln : Nat → Nat) (w : World) (h : RowsIn w oa l Ln) :
    Calls Try.prog 19 #[.agg #[.int .i64 n, .slice oa l cap], .int .i64 1048576] w fun e w' => (∃ x : Int, e = .returned (.int .i64 x) ∧ (x = -1 ∨ (0 ≤ x ∧ x ≤ 1048576 ∧ l ≤ 1048576 ∧ ∀ r, r < l → Ln r ≤ 1048576))) ∧ Below w.heap.size w w' := by
  have hb := (Below.refl w.heap.size w).alloc (Nat.le_refl _) (.cells #[.int .i64 n, .slice oa l cap] 36)
  have h2 : RowsIn (w.alloc (.cells #[.int .i64 n, .slice oa l cap] 36)) oa l Ln := ⟨h.len, fun h0 => by
    obtain ⟨b, off, e, hlt, hr⟩ := h.rows h0
    have hk := (Below.refl w.heap.size w).alloc (Nat.le_refl _) (.cells #[.int .i64 n, .slice oa l cap] 36)
    exact ⟨b, off, e, Nat.lt_of_lt_of_le hlt hk.size, fun r hrl => by
      obtain ⟨m, o, c, h1, h2⟩ := hr r hrl
      exact ⟨m, o, c, cell_keep h1 hk, fun hq => by
        obtain ⟨L, e1, e2⟩ := h2 hq
        exact ⟨L, e1, e2.keep hk⟩⟩⟩⟩
  go_enter Try.func19, Try.ntmps19
  go_wp2_with fail
  refine (c_szIntSS _ _ _ _ _ h2).mono ?_
  rintro e w1 ⟨⟨x, rfl, hx⟩, hbn⟩
  replace hb := bel_to hb hbn
  clear hbn
  rcases hx with rfl | ⟨h0, h1, h3, h4⟩
  · go_wp2
    go_ret
    exact ⟨⟨_, rfl, .inl rfl⟩, hb⟩
  · go_wp2
    go_ret
    exact ⟨⟨_, rfl, .inr ⟨h0, h1, h3, h4⟩⟩, hb⟩
theorem c_eqTable (n : Int) (oa ob) (ca cb : Nat) (R : List (List Int)) (w : World) (hA : RowsAt w oa R) (hB : RowsAt w ob R) :
    Ans Try.prog 14 #[.agg #[.int .i64 n, .slice oa R.length ca], .agg #[.int .i64 n, .slice ob R.length cb]] w (.bool true) := by
  unfold Ans
  have hne : (n != n) = false := by simp
  have hb := ((Below.refl w.heap.size w).alloc (Nat.le_refl _) (.cells #[.int .i64 n, .slice oa R.length ca] 26)).alloc (by simp) (.cells #[.int .i64 n, .slice ob R.length cb] 26)
  go_enter Try.func14, Try.ntmps14
  go_wp2_with (first | (go_at_call 84; refine Calls.mono (c_eqIntSS _ _ _ _ _ _ (hA.keep hb) (hB.keep hb)) ?_; rintro e w1 ⟨rfl, hbn⟩; replace hb := bel_to (w := w) (by first | exact hb | exact hb.alloc hb.size _ | exact (hb.alloc hb.size _).alloc (Nat.le_trans hb.size (by simp)) _ | exact hb.setCell (by simp [hb.size]) _) hbn; clear hbn))
  go_ret
  exact ⟨rfl, hb⟩
theorem c_toTable (n : Int) (oa) (ca : Nat) (R : List (List Int)) (w : World) (hR : RowsAt w oa R) :
    Calls Try.prog 21 #[.agg #[.int .i64 n, .slice oa R.length ca]] w fun e w' => ∃ o c, e = .returned (.agg #[.int .i64 n, .slice o R.length c]) ∧ RowsAt w' o R ∧ Below w.heap.size w w' := by
  have hb0 := ((((Below.refl w.heap.size w).alloc (Nat.le_refl _) (.cells #[.int .i64 n, .slice oa R.length ca] 36)).alloc (by simp) (.cells #[.int .i64 0, .slice none 0 0] 26)).alloc (by simp; omega) (.cells #[.int .i64 n, .slice none 0 0] 26))
  go_enter Try.func21, Try.ntmps21
  go_wp2_with fail
  refine (c_toIntSS _ _ _ _ (hR.keep hb0)).mono ?_
  rintro e w1 ⟨o, c, rfl, hN, hbn⟩
  have k1 : Blk w1 (w.heap.size + 1) #[.int .i64 0, .slice none 0 0] 26 := by
    have := (Blk.new (w.alloc (.cells #[.int .i64 n, .slice oa R.length ca] 36)) #[.int .i64 0, .slice none 0 0] 26).alloc (.cells #[.int .i64 n, .slice none 0 0] 26)
    simp only [World.size_alloc] at this
    exact this.keep hbn
  have k2 : Blk w1 (w.heap.size + 1 + 1) #[.int .i64 n, .slice none 0 0] 26 := by
    have := Blk.new ((w.alloc (.cells #[.int .i64 n, .slice oa R.length ca] 36)).alloc (.cells #[.int .i64 0, .slice none 0 0] 26)) #[.int .i64 n, .slice none 0 0] 26
    simp only [World.size_alloc] at this
    exact this.keep hbn
  have a10 := k1.cell 0 _ rfl
  have a11 := k1.cell 1 _ rfl
  have f10 := k1.free 0
  have f11 := k1.free 1
  have a20 := k2.cell 0 _ rfl
  have a21 := k2.cell 1 _ rfl
  have f20 := k2.free 0
  have f21 := k2.free 1
  replace hb0 := bel_to hb0 hbn
  clear hbn k1 k2
  go_wp2
  exact bodyPost_ret (v := .agg #[.int .i64 n, .slice o R.length c]) (by simp [results, Try.results21, go_sem, a10, a11]) rfl
    ⟨o, c, rfl, (((hN.far 1 _ (by simp)).far 0 _ (by simp)).far 1 _ (by simp)).rows, Below.setCell (Below.setCell (Below.setCell hb0 (by simp; omega) _) (by simp) _) (by simp) _⟩
end Go.Proofs.Ytjbmpnbfiahdhaa
namespace Go.Proofs.Ytjbmpnbfiahdhaa
open Go.RowKit
set_option linter.unusedVariables false
set_option maxRecDepth 100000

structure OwnRows (w : World) (B : Nat) (v : Value) (xs : List Value) (R : List (List Int)) : Prop where
  len : xs.length = R.length
  outer : OwnV w B v xs
  rows : ∀ j, j < R.length → ∃ o c, xs[j]? = some (.slice o (row R j).length c) ∧ OwnI w B (.slice o (row R j).length c) (row R j) ∧ Apart v (.slice o (row R j).length c)
  pair : ∀ i j, i < j → j < R.length → ∀ u u', xs[i]? = some u → xs[j]? = some u' → Apart u u'
theorem OwnRows.keep {w w' : World} {B : Nat} {v : Value} {xs : List Value} {R : List (List Int)} (h : OwnRows w B v xs R) (hb : Below w.heap.size w w') : OwnRows w' B v xs R :=
  ⟨h.len, h.outer.keep hb, fun j hj => by
    obtain ⟨o, c, h1, h2, h3⟩ := h.rows j hj
    exact ⟨o, c, h1, h2.keep hb, h3⟩, h.pair⟩
theorem OwnRows.based {w : World} {B B' : Nat} {v : Value} {xs : List Value} {R : List (List Int)} (h : OwnRows w B v xs R) (hb : B' ≤ B) : OwnRows w B' v xs R :=
  ⟨h.len, owns_base h.outer hb, fun j hj => by
    obtain ⟨o, c, h1, h2, h3⟩ := h.rows j hj
    exact ⟨o, c, h1, h2.based hb, h3⟩, h.pair⟩
theorem OwnRows.shape {w : World} {B : Nat} {v : Value} {xs : List Value} {R : List (List Int)} (h : OwnRows w B v xs R) : ∃ oa c, v = .slice oa R.length c := by
  obtain ⟨oa, c, e, _⟩ := owns_cells h.outer
  exact ⟨oa, c, by rw [e, h.len]⟩
theorem OwnRows.at_ {w : World} {B : Nat} {oa : Option Addr} {n c : Nat} {xs : List Value} {R : List (List Int)} (h : OwnRows w B (.slice oa n c) xs R) (h0 : 0 < R.length) :
    ∃ g, oa = some ⟨g, 0, none⟩ ∧ B ≤ g ∧ g < w.heap.size ∧ ∀ j, j < R.length → w.cell? ⟨g, j, none⟩ = xs[j]? := by
  obtain ⟨oa', c', e, hg⟩ := owns_cells h.outer
  simp only [Value.slice.injEq] at e
  obtain ⟨rfl, _, rfl⟩ := e
  obtain ⟨g, h1, h2, h3, _, h4, _⟩ := hg (by rw [h.len]; exact h0)
  exact ⟨g, h1, h2, h3, fun j hj => h4 j (by rw [h.len]; omega)⟩
theorem OwnRows.read {w : World} {B : Nat} {oa : Option Addr} {n c : Nat} {xs : List Value} {R : List (List Int)} (h : OwnRows w B (.slice oa n c) xs R) (hR : R.length ≤ Room) (hr : ∀ j, j < R.length → (row R j).length ≤ Room) : RowsAt w oa R :=
  ⟨hR, fun h0 => by
    obtain ⟨g, e, _, hlt, hc⟩ := h.at_ h0
    refine ⟨g, 0, e, hlt, fun j hj => ?_⟩
    obtain ⟨o, c', h1, h2, _⟩ := h.rows j hj
    exact ⟨o, c', by rw [Nat.zero_add, hc j hj]; exact h1, h2.ints rfl (hr j hj)⟩⟩

/-- Nothing has turned but in the blocks of these slices. -/
structure GrownMany (w w' : World) (vs : List Value) : Prop where
  os : w'.os = w.os
  tape : w'.tape = w.tape
  output : w'.output = w.output
  size : w.heap.size ≤ w'.heap.size
  block : ∀ k, k < w.heap.size → (∀ y ∈ vs, y.ownBlock ≠ some k) → w'.heap[k]? = w.heap[k]?
theorem GrownMany.refl (w : World) (vs : List Value) : GrownMany w w vs := ⟨rfl, rfl, rfl, Nat.le_refl _, fun _ _ _ => rfl⟩
theorem GrownMany.trans {a b c : World} {vs : List Value} (h : GrownMany a b vs) (k : GrownMany b c vs) : GrownMany a c vs :=
  ⟨k.os.trans h.os, k.tape.trans h.tape, k.output.trans h.output, Nat.le_trans h.size k.size, fun j hj hy => (k.block j (Nat.lt_of_lt_of_le hj h.size) hy).trans (h.block j hj hy)⟩
theorem GrownMany.one {a b : World} {vs : List Value} {u : Value} (h : a.grownBy b u.ownBlock) (hu : u ∈ vs) : GrownMany a b vs :=
  ⟨h.os, h.tape, h.output, h.size, fun j hj hy => h.block j hj fun e => hy u hu e.symm⟩
theorem GrownMany.of {a b : World} {vs : List Value} (h : Below a.heap.size a b) : GrownMany a b vs := ⟨h.os, h.tape, h.output, h.size, fun j hj _ => h.block j hj⟩
theorem owns_many {w w' : World} {base : Nat} {e : TypeId} {size : Nat} {v : Value} {n : Nat} {xs vs : List Value} (h : w.ownsRow base e size v n xs) (hg : GrownMany w w' vs) (ha : ∀ y ∈ vs, Apart v y) : w'.ownsRow base e size v n xs := by
  refine ⟨h.1, ?_⟩
  rcases h.2 with hn | ⟨g, cap, cur, rfl, hb, hgg, rest⟩
  · exact .inl hn
  · refine .inr ⟨g, cap, cur, rfl, hb, ?_, rest⟩
    rw [hg.block g (Array.getElem?_eq_some_iff.1 hgg).1 (fun y hy e => by
      rcases ha y hy with h' | h'
      · simp [Value.ownBlock] at h'
      · exact h' (by rw [e]; rfl))]
    exact hgg
theorem OwnI.many {w w' : World} {base : Nat} {v : Value} {L : List Int} {vs : List Value} (h : OwnI w base v L) (hg : GrownMany w w' vs) (ha : ∀ y ∈ vs, Apart v y) : OwnI w' base v L := owns_many h hg ha
theorem OwnD.many {w w' : World} {base : Nat} {v : Value} {L : List (Int × Int)} {vs : List Value} (h : OwnD w base v L) (hg : GrownMany w w' vs) (ha : ∀ y ∈ vs, Apart v y) : OwnD w' base v L := owns_many h hg ha
theorem below_many {B : Nat} {w a b : World} {vs : List Value} (h : Below B w a) (hB0 : B ≤ w.heap.size) (hg : GrownMany a b vs) (hB : ∀ y ∈ vs, ∀ g, y.ownBlock = some g → B ≤ g) : Below B w b :=
  h.trans ⟨hg.os, hg.tape, hg.output, hg.size, fun k hk => hg.block k (by have := h.size; omega) fun y hy e => by have := hB y hy k e; omega⟩
theorem OwnRows.low {w : World} {B : Nat} {v : Value} {xs : List Value} {R : List (List Int)} (h : OwnRows w B v xs R) : ∀ y ∈ xs, ∀ g, y.ownBlock = some g → B ≤ g := by
  intro y hy g hg
  obtain ⟨j, hj⟩ := List.mem_iff_getElem?.1 hy
  have hjl : j < R.length := by rw [← h.len]; exact (List.getElem?_eq_some_iff.1 hj).1
  obtain ⟨o, c, h1, h2, _⟩ := h.rows j hjl
  rw [h1] at hj
  injection hj with hj
  subst hj
  exact (World.ownsRow.lt h2 g hg).1
/-- What the call made before, and what it makes behind, lies apart from all of it. -/
theorem OwnRows.before {w w' : World} {base size n : Nat} {e : TypeId} {u v : Value} {ys xs : List Value} {R : List (List Int)} (h : w.ownsRow base e size u n ys) (h' : OwnRows w' w.heap.size v xs R) : ∀ y ∈ xs, Apart u y := by
  intro y hy
  obtain ⟨j, hj⟩ := List.mem_iff_getElem?.1 hy
  have hjl : j < R.length := by rw [← h'.len]; exact (List.getElem?_eq_some_iff.1 hj).1
  obtain ⟨o, c, h1, h2, _⟩ := h'.rows j hjl
  rw [h1] at hj
  injection hj with hj
  subst hj
  exact apart_old h h2
theorem OwnRows.behind {w w' : World} {size n : Nat} {e : TypeId} {u v : Value} {ys xs : List Value} {R : List (List Int)} {B : Nat} (h : OwnRows w B v xs R) (h' : w'.ownsRow w.heap.size e size u n ys) : ∀ y ∈ xs, Apart u y := by
  intro y hy
  obtain ⟨j, hj⟩ := List.mem_iff_getElem?.1 hy
  have hjl : j < R.length := by rw [← h.len]; exact (List.getElem?_eq_some_iff.1 hj).1
  obtain ⟨o, c, h1, h2, _⟩ := h.rows j hjl
  rw [h1] at hj
  injection hj with hj
  subst hj
  exact (apart_old h2 h').symm

def sumL (R : List (List Int)) (i : Nat) : Nat := ((R.take i).map List.length).sum
theorem sumL_succ {R : List (List Int)} {i : Nat} (h : i < R.length) : sumL R (i + 1) = sumL R i + (row R i).length := by
  unfold sumL
  rw [List.take_add_one, row_eq h]
  simp
theorem sumL_mono {R : List (List Int)} : ∀ {i j : Nat}, i ≤ j → j ≤ R.length → sumL R i ≤ sumL R j := by
  intro i j hij
  induction j with
  | zero => intro _; have : i = 0 := by omega
            subst this; exact Nat.le_refl _
  | succ j ih =>
    intro hj
    rcases Nat.lt_or_ge i (j + 1) with h | h
    · rw [sumL_succ (by omega)]; have := ih (by omega) (by omega); omega
    · have : i = j + 1 := by omega
      subst this; exact Nat.le_refl _
def seqR (k : Int) (R : List (List Int)) : List (List Int) := (List.range R.length).map fun j => seqI (k + sumL R j) (row R j).length
theorem seqR_length (k : Int) (R : List (List Int)) : (seqR k R).length = R.length := by simp [seqR]
theorem seqR_row {k : Int} {R : List (List Int)} {j : Nat} (h : j < R.length) : row (seqR k R) j = seqI (k + sumL R j) (row R j).length := by simp [row, seqR, List.getD, h]
theorem rows_ext {R S : List (List Int)} (hl : R.length = S.length) (h : ∀ j, j < R.length → row R j = row S j) : R = S := by
  apply List.ext_getElem hl
  intro j h1 h2
  have := h j h1
  simp [row, List.getD, h1, h2] at this
  exact this

set_option maxHeartbeats 800000 in
theorem c_markIntSS (oa) (c B : Nat) (xs : List Value) (R : List (List Int)) (k0 : Int) (w : World) (h : OwnRows w B (.slice oa R.length c) xs R) (hR : R.length ≤ Room) (hk0 : 0 ≤ k0 ∧ k0 + sumL R R.length ≤ 1073741824) :
    Calls Try.prog 86 #[.slice oa R.length c, .int .i64 k0] w fun e w' => e = .returned (.int .i64 (k0 + sumL R R.length)) ∧ OwnRows w' B (.slice oa R.length c) xs (seqR k0 R) ∧ GrownMany w w' xs := by
  unfold Room at hR
  obtain ⟨h01, h02⟩ := hk0
  have HX : Hid (k0 + sumL R R.length ≤ 1073741824) := h02
  clear h02
  go_enter Try.func86, Try.ntmps86
  go_wp2
  go_loopw [1, 5] (fun k i wr => ∃ (j : Nat) (M : List (List Int)), k = .int .i64 (k0 + sumL R j) ∧ i = .int .i64 j ∧ j ≤ R.length ∧ M.length = R.length ∧ (∀ t, t < R.length → (row M t).length = (row R t).length) ∧ (∀ t, t < j → row M t = seqI (k0 + sumL R t) (row R t).length) ∧
    OwnRows wr B (.slice oa R.length c) xs M ∧ GrownMany w wr xs) (fun _ i _ => R.length - (intOf i).toNat)
  case atStart => exact ⟨0, R, by simp [sumL], rfl, Nat.zero_le _, rfl, fun _ _ => rfl, fun t ht => absurd ht (by omega), h, GrownMany.refl _ _⟩
  case round =>
    clear h
    obtain ⟨j, M, rfl, rfl, hj, hM, hlen, hall, hO, hg⟩ := hrel
    have HM : Hid (M.length = R.length) := hM
    have HL : Hid (∀ t, t < R.length → (row M t).length = (row R t).length) := hlen
    have HA : Hid (∀ t, t < j → row M t = seqI (k0 + sumL R t) (row R t).length) := hall
    clear hM hlen hall
    by_cases hlt : j < R.length
    · obtain ⟨g, rfl, hBg, hgl, hcell⟩ := hO.at_ (by have := HM.out; omega)
      obtain ⟨o, c', h1, h2, h3⟩ := hO.rows j (by have := HM.out; omega)
      have hc1 := (hcell j (by have := HM.out; omega)).trans h1
      have hmono := sumL_mono (R := R) (i := j + 1) (j := R.length) (by omega) (Nat.le_refl _)
      have hsucc := sumL_succ hlt
      have hrl : (row M j).length ≤ 1073741824 := by have := HL.out j hlt; have := HX.out; omega
      have hk : 0 ≤ k0 + (sumL R j : Int) ∧ k0 + (sumL R j : Int) ≤ 1073741824 := by have := HX.out; omega
      have HS : Hid (sumL R (j + 1) = sumL R j + (row R j).length) := hsucc
      clear hcell hmono hsucc
      go_wp2_with fail
      refine (c_markIntS _ _ B _ _ hk _ hrl h2).mono ?_
      rintro e w1 ⟨rfl, hI, hg1⟩
      have HO2 : Hid (OwnRows w1 B (.slice (some ⟨g, 0, none⟩) R.length c) xs (M.set j (seqI (k0 + sumL R j) (row M j).length))) := by
        refine ⟨by rw [List.length_set]; exact hO.len, World.ownsRow.kept hO.outer hg1 h3, fun t ht => ?_, fun i t hi ht => hO.pair i t hi (by rw [List.length_set] at ht; exact ht)⟩
        rw [List.length_set] at ht
        by_cases e : t = j
        · subst e
          have er : row (M.set t (seqI (k0 + sumL R t) (row M t).length)) t = seqI (k0 + sumL R t) (row M t).length := by simp [row, List.getD, List.getElem?_set_self ht]
          rw [er, seqI_length]
          exact ⟨o, c', h1, hI, h3⟩
        · have er : row (M.set j (seqI (k0 + sumL R j) (row M j).length)) t = row M t := by simp [row, List.getD, List.getElem?_set_ne (Ne.symm e)]
          rw [er]
          obtain ⟨o2, c2, q1, q2, q3⟩ := hO.rows t ht
          refine ⟨o2, c2, q1, q2.far hg1 ?_, q3⟩
          rcases Nat.lt_or_ge t j with h' | h'
          · exact hO.pair t j h' (by have := HM.out; omega) _ _ q1 h1
          · exact (hO.pair j t (by omega) ht _ _ h1 q1).symm
      have HG : Hid (GrownMany w w1 xs) := hg.trans (GrownMany.one hg1 (List.mem_iff_getElem?.2 ⟨j, h1⟩))
      clear hO hg hI hg1 h1 h2 h3
      go_wp2
      go_roundw
      case rel =>
        refine ⟨j + 1, _, ?_, by go_num, by omega, by rw [List.length_set]; exact HM.out, fun t ht => ?_, ?_, HO2.out, HG.out⟩
        · rw [HS.out]; have := HL.out j hlt; simp; omega
        · by_cases e : t = j
          · subst e
            have er : row (M.set t (seqI (k0 + sumL R t) (row M t).length)) t = seqI (k0 + sumL R t) (row M t).length := by simp [row, List.getD, List.getElem?_set_self (show t < M.length by have := HM.out; omega)]
            rw [er, seqI_length]; exact HL.out t ht
          · have er : row (M.set j (seqI (k0 + sumL R j) (row M j).length)) t = row M t := by simp [row, List.getD, List.getElem?_set_ne (Ne.symm e)]
            rw [er]; exact HL.out t ht
        · refine lt_step (fun t ht => ?_) ?_
          · have er : row (M.set j (seqI (k0 + sumL R j) (row M j).length)) t = row M t := by simp [row, List.getD, List.getElem?_set_ne (show j ≠ t by omega)]
            rw [er]; exact HA.out t ht
          · have er : row (M.set j (seqI (k0 + sumL R j) (row M j).length)) j = seqI (k0 + sumL R j) (row M j).length := by simp [row, List.getD, List.getElem?_set_self (show j < M.length by have := HM.out; omega)]
            rw [er, HL.out j hlt]
      case measure => simp [intOf]; omega
    · have hjj : j = R.length := by omega
      have HJ : Hid (j = R.length) := hjj
      have HV : Hid (M = seqR k0 R) := rows_ext (by rw [seqR_length]; exact HM.out) fun t ht => by
        have h1 := HM.out
        rw [seqR_row (by omega)]
        exact HA.out t (by omega)
      clear hjj
      go_wp2
      go_ret
      exact ⟨ret_int (by rw [HJ.out]), by rw [← HV.out]; exact hO, hg⟩
theorem c_heldIntSS (oa) (c : Nat) (R : List (List Int)) (k0 : Int) (w : World) (hR : RowsAt w oa (seqR k0 R)) (hk0 : 0 ≤ k0 ∧ k0 + sumL R R.length ≤ 1073741824) :
    Ans Try.prog 87 #[.slice oa R.length c, .int .i64 k0] w (.int .i64 (k0 + sumL R R.length)) := by
  unfold Ans
  have hn : R.length ≤ 1073741824 := by have := hR.len; rw [seqR_length] at this; exact this
  obtain ⟨h01, h02⟩ := hk0
  have HX : Hid (k0 + sumL R R.length ≤ 1073741824) := h02
  clear h02
  go_enter Try.func87, Try.ntmps87
  go_wp2
  go_loopw [1, 5] (fun k i wr => ∃ j : Nat, k = .int .i64 (k0 + sumL R j) ∧ i = .int .i64 j ∧ j ≤ R.length ∧ Below w.heap.size w wr) (fun _ i _ => R.length - (intOf i).toNat)
  case atStart => exact ⟨0, by simp [sumL], rfl, Nat.zero_le _, Below.refl _ _⟩
  case round =>
    obtain ⟨j, rfl, rfl, hj, hb⟩ := hrel
    by_cases hlt : j < R.length
    · obtain ⟨b, off, rfl, hbs, hca⟩ := hR.at_ (by rw [seqR_length]; omega)
      obtain ⟨o, c', h1, h2⟩ := hca j (by rw [seqR_length]; omega)
      rw [seqR_row hlt, seqI_length] at h1
      rw [seqR_row hlt] at h2
      have hc1 := cell_keep h1 hb
      have hmono := sumL_mono (R := R) (i := j + 1) (j := R.length) (by omega) (Nat.le_refl _)
      have HS : Hid (sumL R (j + 1) = sumL R j + (row R j).length) := sumL_succ hlt
      have hk : 0 ≤ k0 + (sumL R j : Int) ∧ k0 + (sumL R j : Int) ≤ 1073741824 := by have := HX.out; have := HS.out; omega
      clear hca h1 hmono
      go_wp2_with fail
      refine Calls.mono (c_heldIntS _ _ _ _ hk _ (h2.keep hb)) ?_
      rintro e w1 ⟨rfl, hbn⟩
      replace hb := bel_to hb hbn
      clear hbn hc1 h2
      go_wp2
      go_roundw
      case rel => exact ⟨j + 1, by rw [HS.out]; simp; omega, by go_num, by omega, hb⟩
      case measure => simp [intOf]; omega
    · have hjj : j = R.length := by omega
      have HJ : Hid (j = R.length) := hjj
      clear hjj
      go_wp2
      go_ret
      exact ⟨ret_int (by rw [HJ.out]), hb⟩
end Go.Proofs.Ytjbmpnbfiahdhaa
namespace Go.Proofs.Ytjbmpnbfiahdhaa
open Go.RowKit
set_option linter.unusedVariables false
set_option maxRecDepth 100000

set_option maxHeartbeats 800000 in
theorem c_toIntSSo (oa) (ca : Nat) (R : List (List Int)) (w : World) (hR : RowsAt w oa R) :
    Calls Try.prog 91 #[.slice oa R.length ca] w fun e w' => ∃ o c xs, e = .returned (.slice o R.length c) ∧ OwnRows w' w.heap.size (.slice o R.length c) xs R ∧ Below w.heap.size w w' := by
  have hn : R.length ≤ 1073741824 := hR.len
  obtain ⟨i0, hi, hz0, hz1, hz2⟩ := info_parts info_ints
  go_enter Try.func91, Try.ntmps91
  go_wp2_with (first | (at_make; refine wpList_make_full _ rfl _ _ 24 rfl w.heap.size 68 i0 (.slice none 0 0) 1 Try.underlying24 hi hz0 hz1 .i64 .i64 _ _ R.length rfl rfl rfl rfl (by rw [hz2]; omega) (by unfold maxLen; omega) (Nat.le_refl _) ?_; intro w1 hown hgrow))
  have hI := ownV_made hown
  have hb1 : Below w.heap.size w w1 := below_grown hgrow (Nat.le_refl _) (by simp)
  clear hown hgrow hi hz0 hz1 hz2 i0
  go_loopw [4] (fun i wr => ∃ (k : Nat) (xs : List Value), i = .int .i64 k ∧ k ≤ R.length ∧ xs.length = R.length ∧ (∀ j, j < k → ∃ o c, xs[j]? = some (.slice o (row R j).length c) ∧ OwnI wr (w.heap.size + 1) (.slice o (row R j).length c) (row R j)) ∧ (∀ i j, i < j → j < k → ∀ u u', xs[i]? = some u → xs[j]? = some u' → Apart u u') ∧
      OwnV wr w.heap.size (.slice (some ⟨w.heap.size, 0, none⟩) R.length R.length) xs ∧ Below w.heap.size w wr) (fun i _ => R.length - (intOf i).toNat)
  case atStart => exact ⟨0, _, rfl, Nat.zero_le _, by simp, fun j hj => absurd hj (by omega), fun i j _ hj => absurd hj (by omega), hI, hb1⟩
  case round =>
    clear hI hb1
    obtain ⟨k, xs, rfl, hk, hM, hall, hpair, hI, hb⟩ := hrel
    have HM : Hid (xs.length = R.length) := hM
    have HA : Hid (∀ j, j < k → ∃ o c, xs[j]? = some (.slice o (row R j).length c) ∧ OwnI wr (w.heap.size + 1) (.slice o (row R j).length c) (row R j)) := hall
    have HP : Hid (∀ i j, i < j → j < k → ∀ u u', xs[i]? = some u → xs[j]? = some u' → Apart u u') := hpair
    clear hall hM hpair
    by_cases hlt : k < R.length
    · obtain ⟨b, off, rfl, hbs, hc⟩ := hR.at_ (by omega)
      obtain ⟨o, c, hc0, hrow⟩ := hc k hlt
      have hc1 := cell_keep hc0 hb
      have hgl := (World.ownsRow.lt hI w.heap.size rfl).2
      clear hc hc0
      go_wp2_with fail
      refine (c_toIntS _ _ _ _ (hrow.keep hb)).mono ?_
      rintro en w1 ⟨v1, rfl, h1, hbn⟩
      obtain ⟨o1, c1, rfl⟩ := h1.shape
      have hwr : OwnI wr w.heap.size (.slice o1 (row R k).length c1) (row R k) → True := fun _ => trivial
      have HP2 : Hid (∀ i, i < k → ∀ u, xs[i]? = some u → Apart u (.slice o1 (row R k).length c1)) := fun i hi u hu => by
        obtain ⟨o', c', q1, q2⟩ := HA.out i hi
        rw [q1] at hu
        injection hu with hu
        subst hu
        exact apart_old q2 h1
      replace hI := hI.keep hbn
      replace hb := bel_to hb hbn
      obtain ⟨hg1, hg2⟩ := hI.cell HM.out.symm k hlt
      rw [List.getElem?_eq_getElem (by have := HM.out; omega)] at hg1
      have hapart : ∀ {v : Value} {L : List Int}, OwnI w1 (w.heap.size + 1) v L → OwnI (w1.setCell ⟨w.heap.size, k, none⟩ (.slice o1 (row R k).length c1)) (w.heap.size + 1) v L := fun {v L} hv =>
        World.ownsRow.kept hv (grown_set w1 w.heap.size k _) (by
          cases e : v.ownBlock with
          | none => exact .inl rfl
          | some b => exact .inr (fun e' => by injection e' with e'; have := (World.ownsRow.lt hv b e).1; omega))
      have HI2 := (show Hid _ from hI.store HM.out.symm k (.slice o1 (row R k).length c1) rfl)
      have HB2 := (show Hid _ from Below.setCell (p := (⟨w.heap.size, k, none⟩ : Addr)) hb (Nat.le_refl _) (.slice o1 (row R k).length c1))
      have HR2 : Hid (OwnI (w1.setCell ⟨w.heap.size, k, none⟩ (.slice o1 (row R k).length c1)) (w.heap.size + 1) (.slice o1 (row R k).length c1) (row R k)) := hapart (h1.based (by omega))
      have HA2 : Hid (∀ j, j < k → ∃ o c, xs[j]? = some (.slice o (row R j).length c) ∧ OwnI (w1.setCell ⟨w.heap.size, k, none⟩ (.slice o1 (row R k).length c1)) (w.heap.size + 1) (.slice o (row R j).length c) (row R j)) := fun j hj => by
        obtain ⟨o', c', h1', h2'⟩ := HA.out j hj
        exact ⟨o', c', h1', hapart (h2'.keep hbn)⟩
      clear h1 hbn HA hI hb hapart hwr
      generalize hxk : xs[k]'(by have := HM.out; omega) = xk at hg1
      go_wp2
      go_roundw
      case rel =>
        refine ⟨k + 1, xs.set k (.slice o1 (row R k).length c1), by go_num, by omega, by rw [List.length_set]; exact HM.out, ?_, ?_, HI2.out, HB2.out⟩
        · refine lt_step (fun j hj => ?_) ⟨o1, c1, ?_, HR2.out⟩
          · obtain ⟨o', c', h1', h2'⟩ := HA2.out j hj
            exact ⟨o', c', by rw [List.getElem?_set_ne (by omega)]; exact h1', h2'⟩
          · rw [List.getElem?_set_self (by have := HM.out; omega)]
        · intro i j hij hj u u' hu hu'
          rw [List.getElem?_set_ne (by omega)] at hu
          by_cases e : j = k
          · subst e
            rw [List.getElem?_set_self (by have := HM.out; omega)] at hu'
            injection hu' with hu'
            subst hu'
            exact HP2.out i hij u hu
          · rw [List.getElem?_set_ne (by omega)] at hu'
            exact HP.out i j hij (by omega) u u' hu hu'
      case measure => simp [intOf]; omega
    · have hkk : k = R.length := by omega
      have HK : Hid (k = R.length) := hkk
      clear hkk
      go_wp2
      go_ret
      refine ⟨_, _, xs, rfl, ⟨HM.out, hI, fun j hj => ?_, fun i j hij hj => HP.out i j hij (by have := HK.out; omega)⟩, hb⟩
      obtain ⟨o', c', h1', h2'⟩ := HA.out j (by have := HK.out; omega)
      refine ⟨o', c', h1', h2'.based (by omega), ?_⟩
      cases e : (Value.slice o' (row R j).length c').ownBlock with
      | none => exact Apart.symm (.inl e)
      | some b =>
        have h3 := (World.ownsRow.lt h2' b e).1
        exact .inr (fun e' => by
          rw [e] at e'
          simp [Value.ownBlock] at e'
          omega)

theorem OwnRows.cap {w : World} {B : Nat} {oa : Option Addr} {c : Nat} {xs : List Value} {R : List (List Int)} (h : OwnRows w B (.slice oa R.length c) xs R) : R.length ≤ c := by
  obtain ⟨oa', c', e, hg⟩ := owns_cells h.outer
  simp only [Value.slice.injEq] at e
  obtain ⟨rfl, _, rfl⟩ := e
  rcases Nat.eq_zero_or_pos R.length with h0 | h0
  · omega
  · obtain ⟨_, _, _, _, h4, _⟩ := hg (by rw [h.len]; exact h0)
    rw [h.len] at h4; exact h4
theorem cell_many {w w' : World} {B j base : Nat} {u : Value} {vs : List Value} (h : w.cell? ⟨B, j, none⟩ = some u) (hg : GrownMany w w' vs) (low : ∀ y ∈ vs, ∀ g, y.ownBlock = some g → base ≤ g) (hB : B < base) : w'.cell? ⟨B, j, none⟩ = some u :=
  (World.cell?_of_block (hg.block B (World.block_lt_of_cell? w ⟨B, j, none⟩ h) (fun y hy e => by have := low y hy B e; omega))).trans h
theorem OwnRows.far_set {w : World} {B g : Nat} {v : Value} {xs : List Value} {R : List (List Int)} (h : OwnRows w B v xs R) (j : Nat) (u : Value) (hg : g < B) : OwnRows (w.setCell ⟨g, j, none⟩ u) B v xs R := by
  have hk : ∀ {e : TypeId} {size n : Nat} {y : Value} {zs : List Value}, w.ownsRow B e size y n zs → (w.setCell ⟨g, j, none⟩ u).ownsRow B e size y n zs := fun {e size n y zs} hy =>
    World.ownsRow.kept hy (grown_set w g j _) (by
      cases e : y.ownBlock with
      | none => exact .inl rfl
      | some b => exact .inr (fun e' => by injection e' with e'; have := (World.ownsRow.lt hy b e).1; omega))
  exact ⟨h.len, hk h.outer, fun t ht => by
    obtain ⟨o, c, h1, h2, h3⟩ := h.rows t ht
    exact ⟨o, c, h1, hk h2, h3⟩, h.pair⟩
theorem c_toTableO (n : Int) (oa) (ca : Nat) (R : List (List Int)) (w : World) (hR : RowsAt w oa R) :
    Calls Try.prog 21 #[.agg #[.int .i64 n, .slice oa R.length ca]] w fun e w' => ∃ o c xs, e = .returned (.agg #[.int .i64 n, .slice o R.length c]) ∧ OwnRows w' w.heap.size (.slice o R.length c) xs R ∧ Below w.heap.size w w' := by
  have hb0 := ((((Below.refl w.heap.size w).alloc (Nat.le_refl _) (.cells #[.int .i64 n, .slice oa R.length ca] 36)).alloc (by simp) (.cells #[.int .i64 0, .slice none 0 0] 26)).alloc (by simp; omega) (.cells #[.int .i64 n, .slice none 0 0] 26))
  go_enter Try.func21, Try.ntmps21
  go_wp2_with fail
  refine (c_toIntSSo _ _ _ _ (hR.keep hb0)).mono ?_
  rintro e w1 ⟨o, c, xs, rfl, hN, hbn⟩
  have k1 : Blk w1 (w.heap.size + 1) #[.int .i64 0, .slice none 0 0] 26 := by
    have := (Blk.new (w.alloc (.cells #[.int .i64 n, .slice oa R.length ca] 36)) #[.int .i64 0, .slice none 0 0] 26).alloc (.cells #[.int .i64 n, .slice none 0 0] 26)
    simp only [World.size_alloc] at this
    exact this.keep hbn
  have k2 : Blk w1 (w.heap.size + 1 + 1) #[.int .i64 n, .slice none 0 0] 26 := by
    have := Blk.new ((w.alloc (.cells #[.int .i64 n, .slice oa R.length ca] 36)).alloc (.cells #[.int .i64 0, .slice none 0 0] 26)) #[.int .i64 n, .slice none 0 0] 26
    simp only [World.size_alloc] at this
    exact this.keep hbn
  have a10 := k1.cell 0 _ rfl
  have a11 := k1.cell 1 _ rfl
  have f10 := k1.free 0
  have f11 := k1.free 1
  have a20 := k2.cell 0 _ rfl
  have a21 := k2.cell 1 _ rfl
  have f20 := k2.free 0
  have f21 := k2.free 1
  replace hb0 := bel_to hb0 hbn
  clear hbn k1 k2
  go_wp2
  exact bodyPost_ret (v := .agg #[.int .i64 n, .slice o R.length c]) (by simp [results, Try.results21, go_sem, a10, a11]) rfl
    ⟨o, c, xs, rfl, (((hN.far_set 1 _ (by simp)).far_set 0 _ (by simp)).far_set 1 _ (by simp)).based (by simp; omega), Below.setCell (Below.setCell (Below.setCell hb0 (by simp; omega) _) (by simp) _) (by simp) _⟩
theorem c_markTable (n : Int) (oa) (c B : Nat) (xs : List Value) (R : List (List Int)) (k0 : Int) (w : World) (h : OwnRows w B (.slice oa R.length c) xs R) (hR : R.length ≤ Room) (hk0 : 0 ≤ k0 ∧ k0 + sumL R R.length ≤ 1073741824) :
    Calls Try.prog 17 #[.agg #[.int .i64 n, .slice oa R.length c], .int .i64 k0] w fun e w' => e = .returned (.int .i64 (k0 + sumL R R.length)) ∧ OwnRows w' B (.slice oa R.length c) xs (seqR k0 R) ∧ GrownMany w w' xs := by
  have hb := (Below.refl w.heap.size w).alloc (Nat.le_refl _) (.cells #[.int .i64 n, .slice oa R.length c] 26)
  go_enter Try.func17, Try.ntmps17
  go_wp2_with fail
  refine (c_markIntSS _ _ B xs _ _ _ (h.keep hb) hR hk0).mono ?_
  rintro e w1 ⟨rfl, hO, hg⟩
  have HG : Hid (GrownMany w w1 xs) := (GrownMany.of hb).trans hg
  clear hg hb h
  go_wp2
  go_ret
  exact ⟨rfl, hO, HG.out⟩
theorem c_heldTable (n : Int) (oa) (c : Nat) (R : List (List Int)) (k0 : Int) (w : World) (hR : RowsAt w oa (seqR k0 R)) (hk0 : 0 ≤ k0 ∧ k0 + sumL R R.length ≤ 1073741824) :
    Ans Try.prog 18 #[.agg #[.int .i64 n, .slice oa R.length c], .int .i64 k0] w (.int .i64 (k0 + sumL R R.length)) := by
  unfold Ans
  have hb := (Below.refl w.heap.size w).alloc (Nat.le_refl _) (.cells #[.int .i64 n, .slice oa R.length c] 26)
  have hlt : ¬ (k0 + (sumL R R.length : Int) < 0) := by have := hk0.1; omega
  have hlt2 : decide (k0 + (sumL R R.length : Int) < 0) = false := decide_eq_false hlt
  go_enter Try.func18, Try.ntmps18
  go_wp2_with (first | (go_at_call 87; refine Calls.mono (c_heldIntSS _ _ _ _ _ (hR.keep hb) hk0) ?_; rintro e w1 ⟨rfl, hbn⟩; replace hb := bel_to (w := w) (by first | exact hb | exact hb.alloc hb.size _ | exact (hb.alloc hb.size _).alloc (Nat.le_trans hb.size (by simp)) _ | exact hb.setCell (by simp [hb.size]) _) hbn; clear hbn))
  go_ret
  exact ⟨rfl, hb⟩
end Go.Proofs.Ytjbmpnbfiahdhaa
namespace Go.Proofs.Ytjbmpnbfiahdhaa
open Go.RowKit
set_option linter.unusedVariables false
set_option maxRecDepth 100000

def sumN (Ln : Nat → Nat) (k : Nat) : Nat := ((List.range k).map Ln).sum
theorem sumN_succ (Ln : Nat → Nat) (k : Nat) : sumN Ln (k + 1) = sumN Ln k + Ln k := by unfold sumN; rw [List.range_succ]; simp
theorem sumN_one {Ln : Nat → Nat} : ∀ {n r : Nat}, r < n → Ln r ≤ sumN Ln n
  | 0, r, h => absurd h (by omega)
  | n + 1, r, h => by
    rw [sumN_succ]
    rcases Nat.lt_or_ge r n with h' | h'
    · have := sumN_one (Ln := Ln) h'; omega
    · have : r = n := by omega
      subst this; omega
theorem sumL_sumN {R : List (List Int)} {Ln : Nat → Nat} (h : ∀ r, r < R.length → (row R r).length = Ln r) : ∀ k, k ≤ R.length → sumL R k = sumN Ln k
  | 0, _ => by simp [sumL, sumN]
  | k + 1, hk => by rw [sumL_succ (by omega), sumN_succ, sumL_sumN h k (by omega), h k (by omega)]
theorem RowsIn.reads {w : World} {oa : Option Addr} {n : Nat} {Ln : Nat → Nat} (h : RowsIn w oa n Ln) (hn : n ≤ Room) (hL : ∀ r, r < n → Ln r ≤ Room) : ∃ R : List (List Int), R.length = n ∧ RowsAt w oa R ∧ ∀ r, r < n → (row R r).length = Ln r := by
  rcases Nat.eq_zero_or_pos n with h0 | h0
  · exact ⟨[], by simp [h0], ⟨by simp, fun h => absurd h (by simp)⟩, fun r hr => absurd hr (by omega)⟩
  · obtain ⟨b, off, e, hb, hr⟩ := h.rows h0
    have each : ∀ r, r < n → ∃ L : List Int, L.length = Ln r ∧ ∃ o c, w.cell? ⟨b, off + r, none⟩ = some (.slice o (Ln r) c) ∧ IntsAt w o L := fun r hrn => by
      obtain ⟨_, o, c, h1, h2⟩ := hr r hrn
      obtain ⟨L, h3, h4⟩ := h2 (hL r hrn)
      exact ⟨L, h3, o, c, h1, h4⟩
    have hch : ∃ f : Nat → List Int, ∀ r, r < n → (f r).length = Ln r ∧ ∃ o c, w.cell? ⟨b, off + r, none⟩ = some (.slice o (Ln r) c) ∧ IntsAt w o (f r) :=
      ⟨fun r => if hr : r < n then Classical.choose (each r hr) else [], fun r hr => by simp only [hr, dif_pos]; exact Classical.choose_spec (each r hr)⟩
    obtain ⟨f, hf⟩ := hch
    have er : ∀ k, k < n → row ((List.range n).map f) k = f k := fun k hk => by simp [row, List.getD, hk]
    refine ⟨(List.range n).map f, by simp, ⟨by simpa using hn, fun _ => ⟨b, off, e, hb, fun k hk => ?_⟩⟩, fun r hr => by rw [er r hr]; exact (hf r hr).1⟩
    have hk : k < n := by simpa using hk
    obtain ⟨h1, o, c, h2, h3⟩ := hf k hk
    exact ⟨o, c, by rw [er k hk, h1]; exact h2, by rw [er k hk]; exact h3⟩

theorem c_szIntSSs (oa) (n cap : Nat) (Ln : Nat → Nat) (w : World) (h : RowsIn w oa n Ln) :
    Calls Try.prog 88 #[.slice oa n cap, .int .i64 1048576] w fun e w' => (∃ x : Int, e = .returned (.int .i64 x) ∧ (x = -1 ∨ (0 ≤ x ∧ x ≤ 1048576 ∧ n ≤ 1048576 ∧ (n : Int) + sumN Ln n ≤ 1048576))) ∧ Below w.heap.size w w' := by
  have hn := h.len
  unfold maxLen at hn
  by_cases hbig : (1048576 : Int) < n
  · go_enter Try.func88, Try.ntmps88
    go_wp2
    go_ret
    exact ⟨⟨_, rfl, .inl rfl⟩, Below.refl _ _⟩
  go_enter Try.func88, Try.ntmps88
  go_wp2
  go_loopw [1, 5] (fun l i wr => ∃ (x : Int) (k : Nat), l = .int .i64 x ∧ i = .int .i64 k ∧ k ≤ n ∧ 0 ≤ x ∧ x ≤ 1048576 ∧ x + (n : Int) + sumN Ln k = 1048576 ∧ Below w.heap.size w wr) (fun _ i _ => n - (intOf i).toNat)
  case atStart => exact ⟨_, 0, rfl, rfl, Nat.zero_le _, by omega, by omega, by simp [sumN], Below.refl _ _⟩
  case round =>
    obtain ⟨x, k, rfl, rfl, hk, hx0, hx1, hall, hb⟩ := hrel
    have HA : Hid (x + (n : Int) + sumN Ln k = 1048576) := hall
    have HS : Hid (sumN Ln (k + 1) = sumN Ln k + Ln k) := sumN_succ Ln k
    clear hall
    by_cases hlt : k < n
    · obtain ⟨b, off, rfl, hbs, hc⟩ := h.rows (by omega)
      obtain ⟨hm, o, c, hc0, _⟩ := hc k hlt
      have hc1 := cell_keep hc0 hb
      clear hc hc0
      by_cases hle : (Ln k : Int) ≤ x
      · have e : (if (Ln k : Int) ≤ x then x - Ln k else -1) = x - Ln k := if_pos hle
        go_wp2_with fail
        refine (show Ans _ _ _ _ (.int .i64 (x - Ln k)) from e ▸ c_szIntS _ _ _ _ ⟨hx0, hx1⟩ hm _).mono ?_
        rintro en w1 ⟨rfl, hbn⟩
        replace hb := bel_to hb hbn
        clear hbn e
        go_wp2
        go_roundw
        case rel => exact ⟨x - Ln k, k + 1, rfl, by go_num, by omega, by omega, by omega, (by have h1 := HA.out; have h2 := HS.out; omega), hb⟩
        case measure => simp [intOf]; omega
      · have e : (if (Ln k : Int) ≤ x then x - Ln k else -1) = -1 := if_neg hle
        go_wp2_with fail
        refine (show Ans _ _ _ _ (.int .i64 (-1)) from e ▸ c_szIntS _ _ _ _ ⟨hx0, hx1⟩ hm _).mono ?_
        rintro en w1 ⟨rfl, hbn⟩
        replace hb := bel_to hb hbn
        clear hbn e
        go_wp2
        go_ret
        exact ⟨⟨_, rfl, .inl rfl⟩, hb⟩
    · have hkk : k = n := by omega
      have HK : Hid (k = n) := hkk
      clear hkk
      go_wp2
      go_ret
      exact ⟨⟨_, rfl, .inr ⟨hx0, hx1, by omega, (by have h1 := HA.out; have h2 := HK.out; rw [h2] at h1; omega)⟩⟩, hb⟩

theorem c_szTables (n : Int) (oa) (l cap : Nat) (Ln : Nat → Nat) (w : World) (h : RowsIn w oa l Ln) :
    Calls Try.prog 19 #[.agg #[.int .i64 n, .slice oa l cap], .int .i64 1048576] w fun e w' => (∃ x : Int, e = .returned (.int .i64 x) ∧ (x = -1 ∨ (0 ≤ x ∧ x ≤ 1048576 ∧ l ≤ 1048576 ∧ (l : Int) + sumN Ln l ≤ 1048576))) ∧ Below w.heap.size w w' := by
  have hb := (Below.refl w.heap.size w).alloc (Nat.le_refl _) (.cells #[.int .i64 n, .slice oa l cap] 36)
  have h2 : RowsIn (w.alloc (.cells #[.int .i64 n, .slice oa l cap] 36)) oa l Ln := ⟨h.len, fun h0 => by
    obtain ⟨b, off, e, hlt, hr⟩ := h.rows h0
    have hk := (Below.refl w.heap.size w).alloc (Nat.le_refl _) (.cells #[.int .i64 n, .slice oa l cap] 36)
    exact ⟨b, off, e, Nat.lt_of_lt_of_le hlt hk.size, fun r hrl => by
      obtain ⟨m, o, c, h1, h2⟩ := hr r hrl
      exact ⟨m, o, c, cell_keep h1 hk, fun hq => by
        obtain ⟨L, e1, e2⟩ := h2 hq
        exact ⟨L, e1, e2.keep hk⟩⟩⟩⟩
  go_enter Try.func19, Try.ntmps19
  go_wp2_with fail
  refine (c_szIntSSs _ _ _ _ _ h2).mono ?_
  rintro e w1 ⟨⟨x, rfl, hx⟩, hbn⟩
  replace hb := bel_to hb hbn
  clear hbn
  rcases hx with rfl | ⟨h0, h1, h3, h4⟩
  · go_wp2
    go_ret
    exact ⟨⟨_, rfl, .inl rfl⟩, hb⟩
  · go_wp2
    go_ret
    exact ⟨⟨_, rfl, .inr ⟨h0, h1, h3, h4⟩⟩, hb⟩
end Go.Proofs.Ytjbmpnbfiahdhaa
namespace Go.Proofs.Ytjbmpnbfiahdhaa
open Go.RowKit
set_option linter.unusedVariables false
set_option maxRecDepth 100000

def encB (b : Bool) : Value := .bool b
def bth (L : List Bool) (k : Nat) : Bool := L.getD k false
def OwnB (w : World) (base : Nat) (v : Value) (L : List Bool) : Prop := w.ownsRow base 4 1 v L.length (L.map encB)
theorem OwnB.keep {w w' : World} {base : Nat} {v : Value} {L : List Bool} (h : OwnB w base v L) (hb : Below w.heap.size w w') : OwnB w' base v L := owns_keep h hb
theorem OwnB.far {w w' : World} {base : Nat} {v v' : Value} {L : List Bool} (h : OwnB w base v L) (hg : w.grownBy w' v'.ownBlock) (ha : Apart v v') : OwnB w' base v L := World.ownsRow.kept h hg ha
theorem OwnB.based {w : World} {base base' : Nat} {v : Value} {L : List Bool} (h : OwnB w base v L) (hb : base' ≤ base) : OwnB w base' v L := owns_base h hb
theorem OwnB.past {w w' : World} {base : Nat} {M v v' : Value} {L : List Bool} {o : Obj} (h : OwnB w base M L) (hg : (w.alloc o).grownBy w' v.ownBlock) (ha : Apart M v) (hf : Fresh (w.alloc o) v v') : OwnB w' base M L ∧ Apart M v' :=
  ⟨OwnB.far (World.ownsRow.alloc h o) hg ha, Apart.next (World.ownsRow.alloc h o) ha hf⟩
theorem bth_eq {L : List Bool} {k : Nat} (hk : k < L.length) : L[k]? = some (bth L k) := by simp [bth, List.getD, hk]
theorem bth_set {L : List Bool} {j k : Nat} {x : Bool} (hj : j < L.length) : bth (L.set j x) k = if k = j then x else bth L k := by
  unfold bth List.getD
  rw [List.getElem?_set]
  by_cases h : j = k
  · subst h; simp [hj]
  · rw [if_neg h, if_neg (by omega)]
theorem OwnB.cell {w : World} {base g : Nat} {n cap : Nat} {L : List Bool} (h : OwnB w base (.slice (some ⟨g, 0, none⟩) n cap) L) (hn : n = L.length) (j : Nat) (hj : j < n) :
    w.cell? ⟨g, j, none⟩ = some (.bool (bth L j)) ∧ w.frozen? ⟨g, j, none⟩ = false := by
  subst hn
  refine ⟨?_, h.frozenAt j⟩
  rw [h.cellAt j (by omega), List.getElem?_map, bth_eq hj]; rfl
theorem OwnB.store {w : World} {base g : Nat} {n cap : Nat} {L : List Bool} (h : OwnB w base (.slice (some ⟨g, 0, none⟩) n cap) L) (hn : n = L.length) (j : Nat) (x : Bool) :
    OwnB (w.setCell ⟨g, j, none⟩ (.bool x)) base (.slice (some ⟨g, 0, none⟩) n cap) (L.set j x) := by
  subst hn
  have := (h.stored j (.bool x)).1
  unfold OwnB
  rw [List.length_set, List.map_set]
  exact this
theorem ownB_made {w : World} {base : Nat} {v : Value} {n : Nat} (h : w.ownsRow base 4 1 v n (madeCells (Value.cells (.bool false)) (n * 1)).toList) : OwnB w base v (List.replicate n false) := by
  have e : (madeCells (Value.cells (.bool false)) (n * 1)).toList = (List.replicate n false).map encB := by
    rw [Nat.mul_one]
    have : (Value.cells (.bool false)) = #[Value.bool false] := rfl
    rw [this, toList_madeCells_one, List.map_replicate]; rfl
  rw [e] at h
  unfold OwnB
  rw [List.length_replicate]
  exact h
theorem bth_replicate (n k : Nat) : bth (List.replicate n false) k = false := by
  unfold bth List.getD
  rw [List.getElem?_replicate]
  split <;> rfl
theorem info_bool : (Try.prog.info? 4).map (fun i => (i.zero, i.size, i.bytes)) = some (some (.bool false), 1, 1) := by kernel_rfl
theorem OwnI.single (w : World) (base : Nat) (hb : base ≤ w.heap.size) (x : Int) : OwnI (w.alloc (.cells #[.int .i64 x] 3)) base (.slice (some ⟨w.heap.size, 0, none⟩) 1 1) [x] :=
  World.ownsRow_lit w #[.int .i64 x] 1 hb (by decide) rfl

/-- A list of lists lies apart from a slice. -/
def ApartR (v : Value) (xs : List Value) (u : Value) : Prop := Apart v u ∧ ∀ y ∈ xs, Apart y u
theorem OwnRows.one {w : World} {B : Nat} {v : Value} {xs : List Value} {R : List (List Int)} (h : OwnRows w B v xs R) {y : Value} (hy : y ∈ xs) : ∃ j, j < R.length ∧ ∃ o c, y = .slice o (row R j).length c ∧ OwnI w B y (row R j) ∧ Apart v y := by
  obtain ⟨j, hj⟩ := List.mem_iff_getElem?.1 hy
  have hjl : j < R.length := by rw [← h.len]; exact (List.getElem?_eq_some_iff.1 hj).1
  obtain ⟨o, c, h1, h2, h3⟩ := h.rows j hjl
  rw [h1] at hj
  injection hj with hj
  exact ⟨j, hjl, o, c, hj.symm, by rw [← hj]; exact h2, by rw [← hj]; exact h3⟩
theorem OwnRows.fresh {w w' : World} {B size n : Nat} {e : TypeId} {u v : Value} {ys xs : List Value} {R : List (List Int)} (h : OwnRows w B v xs R) (h' : w'.ownsRow w.heap.size e size u n ys) : ApartR v xs u :=
  ⟨apart_old h.outer h', fun y hy => by obtain ⟨j, _, o, c, e, h2, _⟩ := h.one hy; exact apart_old h2 h'⟩
theorem OwnRows.past {w w' : World} {B : Nat} {v u u' : Value} {xs : List Value} {R : List (List Int)} {o : Obj} (h : OwnRows w B v xs R) (hg : (w.alloc o).grownBy w' u.ownBlock) (ha : ApartR v xs u) (hf : Fresh (w.alloc o) u u') : OwnRows w' B v xs R ∧ ApartR v xs u' := by
  have hk := h.keep ((Below.refl w.heap.size w).alloc (Nat.le_refl _) o)
  refine ⟨⟨h.len, World.ownsRow.kept hk.outer hg ha.1, fun j hj => ?_, h.pair⟩, Apart.next hk.outer ha.1 hf, fun y hy => ?_⟩
  · obtain ⟨o', c, h1, h2, h3⟩ := hk.rows j hj
    exact ⟨o', c, h1, h2.far hg (ha.2 _ (List.mem_iff_getElem?.2 ⟨j, h1⟩)), h3⟩
  · obtain ⟨j, _, o', c, e, h2, _⟩ := hk.one hy
    exact Apart.next h2 (ha.2 y hy) hf
theorem OwnRows.far {w w' : World} {B : Nat} {v u : Value} {xs : List Value} {R : List (List Int)} (h : OwnRows w B v xs R) (hg : w.grownBy w' u.ownBlock) (ha : ApartR v xs u) : OwnRows w' B v xs R := by
  refine ⟨h.len, World.ownsRow.kept h.outer hg ha.1, fun j hj => ?_, h.pair⟩
  obtain ⟨o', c, h1, h2, h3⟩ := h.rows j hj
  exact ⟨o', c, h1, h2.far hg (ha.2 _ (List.mem_iff_getElem?.2 ⟨j, h1⟩)), h3⟩
theorem row_append_lt {R S : List (List Int)} {j : Nat} (h : j < R.length) : row (R ++ S) j = row R j := by simp [row, List.getD, List.getElem?_append_left h]
theorem row_append_end {R : List (List Int)} {C : List Int} : row (R ++ [C]) R.length = C := by simp [row, List.getD]
/-- A slice of the call's own is appended. -/
theorem OwnRows.snoc {w w' : World} {B : Nat} {v v' : Value} {o : Option Addr} {c : Nat} {xs : List Value} {R : List (List Int)} {C : List Int} {ob : Obj} (h : OwnRows w B v xs R) (hC : OwnI w B (.slice o C.length c) C) (ha : ApartR v xs (.slice o C.length c))
    (hown : w'.ownsRow B 68 1 v' (xs.length + 1) (xs ++ [.slice o C.length c])) (hg : (w.alloc ob).grownBy w' v.ownBlock) (hf : Fresh (w.alloc ob) v v') : OwnRows w' B v' (xs ++ [.slice o C.length c]) (R ++ [C]) := by
  have hk := h.keep ((Below.refl w.heap.size w).alloc (Nat.le_refl _) ob)
  have hCk := hC.keep ((Below.refl w.heap.size w).alloc (Nat.le_refl _) ob)
  have hl := h.len
  refine ⟨by simp [hl], by unfold OwnV; rw [List.length_append]; exact hown, fun j hj => ?_, fun i j hij hj u u' hu hu' => ?_⟩
  · rw [List.length_append, List.length_singleton] at hj
    rcases Nat.lt_or_ge j R.length with hjl | hjl
    · rw [row_append_lt hjl]
      obtain ⟨o', c', h1, h2, h3⟩ := hk.rows j hjl
      refine ⟨o', c', by rw [List.getElem?_append_left (by omega)]; exact h1, h2.far hg h3.symm, (Apart.next h2 h3.symm hf).symm⟩
    · have e : j = R.length := by omega
      subst e
      rw [row_append_end]
      exact ⟨o, c, by rw [← hl]; simp, hCk.far hg ha.1.symm, (Apart.next hCk ha.1.symm hf).symm⟩
  · rw [List.length_append, List.length_singleton] at hj
    rw [List.getElem?_append_left (by omega)] at hu
    rcases Nat.lt_or_ge j R.length with hjl | hjl
    · rw [List.getElem?_append_left (by omega)] at hu'
      exact h.pair i j hij hjl u u' hu hu'
    · have e : j = xs.length := by omega
      subst e
      simp at hu'
      subst hu'
      exact ha.2 u (List.mem_iff_getElem?.2 ⟨i, hu⟩)
theorem OwnRows.apartFrom {w w' : World} {B size n : Nat} {e : TypeId} {u u' v : Value} {ys xs : List Value} {R : List (List Int)} (h : OwnRows w B v xs R) : True := trivial
theorem OwnRows.empty (w : World) (base : Nat) (hb : base ≤ w.heap.size) : OwnRows (w.alloc (.cells #[] 68)) base (.slice (some ⟨w.heap.size, 0, none⟩) 0 0) [] [] :=
  ⟨rfl, World.ownsRow_lit w #[] 0 hb (Nat.zero_le _) rfl, fun j hj => absurd hj (by simp), fun i j _ hj => absurd hj (by simp)⟩
theorem OwnRows.none (w : World) (base : Nat) : OwnRows w base (.slice none 0 0) [] [] :=
  ⟨rfl, World.ownsRow_nil w base _ _, fun j hj => absurd hj (by simp), fun i j _ hj => absurd hj (by simp)⟩
end Go.Proofs.Ytjbmpnbfiahdhaa
namespace Go.Proofs.Ytjbmpnbfiahdhaa
open Go.RowKit
set_option linter.unusedVariables false
set_option maxRecDepth 100000

theorem c_equalIn (m s : Int) (oa ob) (ca cb : Nat) (A B : List Int) (w : World) (hA : IntsAt w oa A) (hB : IntsAt w ob B) (hl : A.length ≤ 5) (hAB : B.length = A.length) :
    Ans Try.prog 173 #[.int .i64 m, .slice oa A.length ca, .slice ob B.length cb, .int .i64 s] w (.bool (ins s (agreeF m A B))) := by
  unfold Ans
  have hb := Below.refl w.heap.size w
  have HA : Hid (B.length = A.length) := hAB
  clear hAB
  go_enter Try.func173, Try.ntmps173
  go_wp2_with (first | (go_at_call 122; refine Calls.mono (c_agree m _ _ _ _ A B _ hA hB hl HA.out) ?_; rintro e w1 ⟨rfl, hbn⟩; replace hb := bel_to (w := w) (by first | exact hb | exact hb.alloc hb.size _ | exact (hb.alloc hb.size _).alloc (Nat.le_trans hb.size (by simp)) _ | exact hb.setCell (by simp [hb.size]) _) hbn; clear hbn) | (go_at_call 106; refine Calls.mono (c_inside _ _ _) ?_; rintro e w1 ⟨rfl, hbn⟩; replace hb := bel_to (w := w) (by first | exact hb | exact hb.alloc hb.size _ | exact (hb.alloc hb.size _).alloc (Nat.le_trans hb.size (by simp)) _ | exact hb.setCell (by simp [hb.size]) _) hbn; clear hbn))
  go_ret
  exact ⟨rfl, hb⟩
theorem c_clS (n : Int) (oa) (cap : Nat) (R : List (List Int)) (m s : Int) (i k : Nat) (X Y Z : Nat) (w : World) (hR : RowsAt w oa R) (ht : isTabF n R = true) (hi : i < R.length) (hk : k < R.length)
    (m0 : w.cell? ⟨X, 0, none⟩ = some (.int .i64 m)) (a1 : w.cell? ⟨Y, 1, none⟩ = some (.slice oa R.length cap)) (s0 : w.cell? ⟨Z, 0, none⟩ = some (.int .i64 s)) :
    Ans Try.prog 172 #[.int .i64 i, .int .i64 k, .pointer (some ⟨X, 0, none⟩), .pointer (some ⟨Y, 0, none⟩), .pointer (some ⟨Z, 0, none⟩)] w (.bool (sameB R m s i k)) := by
  unfold Ans
  obtain ⟨hn1, hn5, hr40, hlen⟩ := isTab_of ht
  have hb := Below.refl w.heap.size w
  obtain ⟨b, off, rfl, hbs, hc⟩ := hR.at_ (by omega)
  obtain ⟨o1, c1, h1, r1⟩ := hc i hi
  obtain ⟨o2, c2, h2, r2⟩ := hc k hk
  have l1 : (row R i).length ≤ 5 := by have := hlen i hi; omega
  have HL : Hid ((row R k).length = (row R i).length) := by have := hlen i hi; have := hlen k hk; show (row R k).length = (row R i).length; omega
  have hx1 := fun (x : After w) => r1.keep x.bel
  have hx2 := fun (x : After w) => r2.keep x.bel
  have HV : Hid (sameB R m s i k = ins s (agreeF m (row R i) (row R k))) := rfl
  clear hc hlen ht hR
  generalize row R i = A at *
  generalize row R k = B at *
  go_enter Try.func172, Try.ntmps172
  go_wp2_with fail
  (refine wp_region_after (by kernel_rfl) (by kernel_rfl) ?_; have q_m0 := fun (x : After _) => cell_keep m0 x.bel; have q_a1 := fun (x : After _) => cell_keep a1 x.bel; have q_s0 := fun (x : After _) => cell_keep s0 x.bel; have q_h1 := fun (x : After _) => cell_keep h1 x.bel; have q_h2 := fun (x : After _) => cell_keep h2 x.bel; (repeat (go_big_quiet_step ((first | (go_at_call 173; exact Ans.after (c_equalIn m s _ _ _ _ A B _ (hx1 _) (hx2 _) l1 HL.out)))))); clear q_m0; clear q_a1; clear q_s0; clear q_h1; clear q_h2; refine wpQuiet_nil ?_; rintro _ ⟨⟨w1, hbn⟩, rfl⟩; (try simp only [After.w]); replace m0 := cell_keep m0 hbn; replace a1 := cell_keep a1 hbn; replace s0 := cell_keep s0 hbn; replace h1 := cell_keep h1 hbn; replace h2 := cell_keep h2 hbn; replace hb := bel_to (w := w) (by first | exact hb | exact hb.alloc hb.size _ | exact (hb.alloc hb.size _).alloc (Nat.le_trans hb.size (by simp)) _ | exact hb.setCell (by simp [hb.size]) _) hbn; clear hbn)
  go_wp2
  go_ret
  exact ⟨ret_bool HV.out.symm, hb⟩

set_option maxHeartbeats 3200000 in
theorem c_classesOf_S (N : Nat) (hN : N ≤ 40) (e0 e1 e2 : Value) (q : Nat → Nat → Bool) (hp : Per q N) (w : World)
    (hcl : ∀ (W : World) (i k : Nat), i < k → k < N → Below w.heap.size w W → Ans Try.prog 172 #[.int .i64 i, .int .i64 k, e0, e1, e2] W (.bool (q i k))) :
    Calls Try.prog 171 #[.int .i64 N, .func (.func 172) #[] #[e0, e1, e2]] w fun e w' => ∃ v xs, e = .returned v ∧ OwnRows w' w.heap.size v xs (ptnQ q N N) ∧ Below w.heap.size w w' := by
  obtain ⟨i0, hi, hz0, hz1, hz2⟩ := info_parts info_int
  obtain ⟨j0, hj, hy0, hy1, hy2⟩ := info_parts info_ints
  obtain ⟨b0, hbo, hx0, hx1, hx2⟩ := info_parts info_bool
  have hb := (Below.refl w.heap.size w).alloc (Nat.le_refl _) (.cells #[] 68)
  have hC := OwnRows.empty w w.heap.size (Nat.le_refl _)
  have HQ : Hid (∀ (W : World) (i k : Nat), i < k → k < N → Below w.heap.size w W → Ans Try.prog 172 #[.int .i64 i, .int .i64 k, e0, e1, e2] W (.bool (q i k))) := hcl
  have HP : Hid (Per q N) := hp
  clear hcl hp
  go_enter Try.func171, Try.ntmps171
  have oldC := hC
  go_wp2_with (first | (at_make; refine wpList_make_full _ rfl _ _ 167 rfl (w.heap.size + 1) 4 b0 (.bool false) 1 Try.underlying167 hbo hx0 hx1 .i64 .i64 _ _ N rfl rfl rfl rfl (by rw [hx2]; omega) (by unfold maxLen; omega) (by simp) ?_; intro w1 hown hgrow))
  have hT := ownB_made hown
  have ap_CT : ApartR (.slice (some ⟨w.heap.size, 0, none⟩) 0 0) [] (.slice (some ⟨w.heap.size + 1, 0, none⟩) N N) := ⟨.inr (by simp [Value.ownBlock]), fun y hy => by cases hy⟩
  have hbg : Below (w.alloc (.cells #[] 68)).heap.size (w.alloc (.cells #[] 68)) w1 := below_grown hgrow (Nat.le_refl _) (by simp)
  replace hC := hC.keep hbg
  replace hb := bel_to hb hbg
  replace hT : OwnB w1 w.heap.size (.slice (some ⟨w.heap.size + 1, 0, none⟩) N N) (List.replicate N false) := OwnB.based (by simpa only [World.size_alloc] using hT) (Nat.le_succ w.heap.size)
  clear hown hgrow hbg hbo hx0 hx1 hx2 b0 oldC
  go_loopw [5, 7] (fun vC i wr => ∃ (i' : Nat) (xs : List Value) (T : List Bool), i = .int .i64 i' ∧ i' ≤ N ∧ OwnRows wr w.heap.size vC xs (ptnQ q N i') ∧ T.length = N ∧ (∀ k, i' ≤ k → k < N → bth T k = tkQ q i' k) ∧ OwnB wr w.heap.size (.slice (some ⟨w.heap.size + 1, 0, none⟩) N N) T ∧ ApartR vC xs (.slice (some ⟨w.heap.size + 1, 0, none⟩) N N) ∧ Below w.heap.size w wr) (fun _ i _ => N - (intOf i).toNat)
  case atStart => exact ⟨0, [], List.replicate N false, rfl, Nat.zero_le _, hC, by simp, fun k _ _ => by rw [bth_replicate]; simp [tkQ], hT, ap_CT, hb⟩
  case round =>
    clear hC hT ap_CT hb
    obtain ⟨i, xs, T, rfl, hi', hC, hTl, hTk, hT, ap_CT, hb⟩ := hrel
    have HTl : Hid (T.length = N) := hTl
    have HTk : Hid (∀ k, i ≤ k → k < N → bth T k = tkQ q i k) := hTk
    have hpl := ptn_len q N i
    have hxl := hC.len
    have hxs : xs.length ≤ 40 := by omega
    clear hTl hTk
    by_cases hlt : i < N
    · have hc1 := hT.cell HTl.out.symm i hlt
      have hc6 := hc1.1
      have hc7 := hc1.2
      have HTi : Hid (bth T i = tkQ q i i) := HTk.out i (Nat.le_refl _) hlt
      clear hc1 hxl
      cases hti : tkQ q i i
      · have HS : Hid (ptnQ q N (i + 1) = ptnQ q N i ++ (if decide (1 < (clsTo q i N).length) then [clsTo q i N] else [])) := by
          show ptnQ q N (i + 1) = _
          rw [ptn_succ]; unfold headQ; rw [hti]; rfl
        have HF : Hid (clsTo q i (i + 1) = [(i : Int)]) := cls_first q i
        generalize ptnQ q N i = P at *
        rw [HTi.out, hti] at hc6
        have hI := OwnI.single wr w.heap.size hb.size (i : Int)
        have hIf := OwnI.single wr wr.heap.size (Nat.le_refl _) (i : Int)
        have ap_CI := hC.fresh hIf
        have ap_TI := apart_old hT hIf
        replace hC := hC.keep ((Below.refl wr.heap.size wr).alloc (Nat.le_refl _) (.cells #[.int .i64 (i : Int)] 3))
        replace hT := hT.keep ((Below.refl wr.heap.size wr).alloc (Nat.le_refl _) (.cells #[.int .i64 (i : Int)] 3))
        replace hb := hb.alloc hb.size (.cells #[.int .i64 (i : Int)] 3)
        clear hIf
        go_wp2
        go_loopw [8, 9] (fun vI k' wr => ∃ (k : Nat) (T : List Bool), k' = .int .i64 k ∧ i < k ∧ k ≤ N ∧ OwnI wr w.heap.size vI (clsTo q i k) ∧ OwnRows wr w.heap.size u5 xs P ∧ T.length = N ∧ (∀ t, i < t → t < N → bth T t = if t < k then tkQ q (i + 1) t else tkQ q i t) ∧ OwnB wr w.heap.size (.slice (some ⟨w.heap.size + 1, 0, none⟩) N N) T ∧ ApartR u5 xs (.slice (some ⟨w.heap.size + 1, 0, none⟩) N N) ∧ ApartR u5 xs vI ∧ Apart (.slice (some ⟨w.heap.size + 1, 0, none⟩) N N) vI ∧ Below w.heap.size w wr) (fun _ k _ => N - (intOf k).toNat)
        case atStart => exact ⟨i + 1, T, by go_num, by omega, by omega, by rw [HF.out]; exact hI, hC, HTl.out, fun t h1 h2 => by rw [HTk.out t (by omega) h2, if_neg (by omega)], hT, ap_CT, ap_CI, ap_TI, hb⟩
        case round =>
          clear hC hT hI ap_CT ap_CI ap_TI hb hc6 hc7 HTl HTk HTi HF
          obtain ⟨k, T, rfl, hik, hk, hI, hC, hTl, hTk, hT, ap_CT, ap_CI, ap_TI, hb⟩ := hrel
          have HTl : Hid (T.length = N) := hTl
          have HTk : Hid (∀ t, i < t → t < N → bth T t = if t < k then tkQ q (i + 1) t else tkQ q i t) := hTk
          have hcl := cls_len q i k
          clear hTl hTk
          by_cases hlk : k < N
          · have HCS : Hid (clsTo q i (k + 1) = clsTo q i k ++ (if q i k then [(k : Int)] else [])) := by
              show clsTo q i (k + 1) = _
              rw [cls_succ, decide_eq_true hik]; rfl
            have hc1 := hT.cell HTl.out.symm k hlk
            have hc6 := hc1.1
            have hc7 := hc1.2
            have HTi : Hid (bth T k = tkQ q i k) := by show bth T k = _; rw [HTk.out k hik hlk, if_neg (by omega)]
            have HSk : Hid (tkQ q (i + 1) k = (tkQ q i k || q i k)) := by show tkQ q (i + 1) k = _; rw [tk_succ, decide_eq_true hik]; rfl
            clear hc1
            generalize clsTo q i k = L at *
            cases hqk : q i k
            · have HN : Hid (∀ t, i < t → t < N → bth T t = if t < k + 1 then tkQ q (i + 1) t else tkQ q i t) := fun t h1 h2 => by
                rw [HTk.out t h1 h2]
                by_cases e : t = k
                · subst e; rw [if_neg (by omega), if_pos (by omega), HSk.out, hqk, Bool.or_false]
                · by_cases h' : t < k
                  · rw [if_pos h', if_pos (by omega)]
                  · rw [if_neg h', if_neg (by omega)]
              cases htk : tkQ q i k
              · rw [HTi.out, htk] at hc6
                go_wp2_with (first | (go_at_call 172; refine Calls.mono (Ans.eqb (HQ.out _ i k hik hlk hb) hqk) ?_; rintro e w1 ⟨rfl, hbn⟩; replace hT := hT.keep hbn; replace hC := hC.keep hbn; replace hI := hI.keep hbn; replace hb := bel_to hb hbn; clear hbn) | fail)
                go_roundw
                case rel => exact ⟨k + 1, T, by go_num, by omega, by omega, by rw [HCS.out, hqk]; simpa using hI, hC, HTl.out, HN.out, hT, ap_CT, ap_CI, ap_TI, hb⟩
                case measure => simp [intOf]; omega
              · rw [HTi.out, htk] at hc6
                go_wp2_with (first | (go_at_call 172; refine Calls.mono (Ans.eqb (HQ.out _ i k hik hlk hb) hqk) ?_; rintro e w1 ⟨rfl, hbn⟩; replace hT := hT.keep hbn; replace hC := hC.keep hbn; replace hI := hI.keep hbn; replace hb := bel_to hb hbn; clear hbn) | fail)
                go_roundw
                case rel => exact ⟨k + 1, T, by go_num, by omega, by omega, by rw [HCS.out, hqk]; simpa using hI, hC, HTl.out, HN.out, hT, ap_CT, ap_CI, ap_TI, hb⟩
                case measure => simp [intOf]; omega
            · have htk : tkQ q i k = false := tk_free HP.out hlt hti hqk
              have HN : Hid (∀ t, i < t → t < N → bth (T.set k true) t = if t < k + 1 then tkQ q (i + 1) t else tkQ q i t) := fun t h1 h2 => by
                rw [bth_set (by have := HTl.out; omega)]
                by_cases e : t = k
                · subst e; rw [if_pos rfl, if_pos (by omega), HSk.out, hqk, Bool.or_true]
                · rw [if_neg e, HTk.out t h1 h2]
                  by_cases h' : t < k
                  · rw [if_pos h', if_pos (by omega)]
                  · rw [if_neg h', if_neg (by omega)]
              rw [HTi.out, htk] at hc6
              have HT2 : Hid ((T.set k true).length = N) := by show (T.set k true).length = N; rw [List.length_set]; exact HTl.out
              go_wp2_with (first | (go_at_call 172; refine Calls.mono (Ans.eqb (HQ.out _ i k hik hlk hb) hqk) ?_; rintro e w1 ⟨rfl, hbn⟩; replace hT := hT.keep hbn; replace hC := hC.keep hbn; replace hI := hI.keep hbn; replace hc6 := cell_keep hc6 hbn; replace hc7 := (hT.cell HTl.out.symm k hlk).2; replace hb := bel_to hb hbn; clear hbn) | (at_builtin; have hI' := OwnI.far (v' := .slice (some ⟨w.heap.size + 1, 0, none⟩) N N) hI (grown_set w1 (w.heap.size + 1) k (.bool true)) ap_TI.symm; have hC' := OwnRows.far (u := .slice (some ⟨w.heap.size + 1, 0, none⟩) N N) hC (grown_set w1 (w.heap.size + 1) k (.bool true)) ap_CT; have hT' := hT.store HTl.out.symm k true; have hb' := Below.setCell (p := (⟨w.heap.size + 1, k, none⟩ : Addr)) hb (Nat.le_succ _) (.bool true); refine wpList_append_fresh rfl _ _ 68 rfl w.heap.size 3 i0 (.int .i64 0) 1 8 Try.underlying68 hi hz0 hz1 hz2 rfl (by decide) _ _ _ rfl (World.ownsRow.alloc hI' _) _ 1 1 [.int .i64 (k : Int)] rfl rfl (World.news_of_block (cs := #[.int .i64 (k : Int)]) (t := 3) (fr := (0, 0)) (by have h9 := heap_alloc_new (w1.setCell ⟨w.heap.size + 1, k, none⟩ (.bool true)) (.cells #[.int .i64 (k : Int)] 3); simpa using h9)) (by intro u hu; simp at hu; subst hu; rfl) (by unfold maxLen; omega) (by omega) (by have := hb.size; simp; omega) ?_; intro v' w1 hown hgrow hfr; replace hb := (hb'.alloc (by have := hb.size; simp; omega) _).grown hgrow (by have := hb.size; simp; omega) (fun g hg => (World.ownsRow.lt hI' g hg).1); obtain ⟨hC, ap_CI⟩ := OwnRows.past hC' hgrow ap_CI hfr; obtain ⟨hT, ap_TI⟩ := OwnB.past hT' hgrow ap_TI hfr; replace hI := OwnI.snoc hown; clear hown hgrow hfr hI' hC' hT' hb') | fail)
              go_roundw
              case rel => exact ⟨k + 1, T.set k true, by go_num, by omega, by omega, by rw [HCS.out, hqk]; exact hI, hC, HT2.out, HN.out, hT, ap_CT, ap_CI, ap_TI, hb⟩
              case measure => simp [intOf]; omega
          · have hkk : k = N := by omega
            have HK : Hid (k = N) := hkk
            have HN : Hid (∀ t, i + 1 ≤ t → t < N → bth T t = tkQ q (i + 1) t) := fun t h1 h2 => by rw [HTk.out t (by omega) h2, if_pos (by omega)]
            have HCk : Hid (clsTo q i k = clsTo q i N) := by show clsTo q i k = clsTo q i N; rw [hkk]
            clear hkk
            rw [HCk.out] at hI
            have hcN := cls_len q i N
            generalize clsTo q i N = L at *
            obtain ⟨oL, cL, rfl⟩ := hI.shape
            by_cases h1 : 1 < L.length
            · have HSP : Hid (ptnQ q N (i + 1) = P ++ [L]) := by show ptnQ q N (i + 1) = _; rw [HS.out, decide_eq_true h1]; rfl
              have hxl2 := hC.len
              have hdec : decide ((1 : Int) < (L.length : Int)) = true := by simp; omega
              go_wp2_with (first | (at_builtin; refine wpList_append_fresh rfl _ _ 24 rfl w.heap.size 68 j0 (.slice none 0 0) 1 24 Try.underlying24 hj hy0 hy1 hy2 rfl (by decide) _ _ _ rfl (World.ownsRow.alloc hC.outer _) _ 1 1 [.slice oL L.length cL] rfl rfl (by intro j u hj; match j, hj with | 0, hj => simp at hj; subst hj; simp [Addr.add]) (by intro u hu; simp at hu; subst hu; rfl) (by unfold maxLen; omega) (by omega) (by have := hb.size; simp; omega) ?_; intro v' w1 hown hgrow hfr; replace hb := (hb.alloc hb.size _).grown hgrow (by have := hb.size; simp; omega) (fun g hg => (World.ownsRow.lt hC.outer g hg).1); have hC2 := OwnRows.snoc hC hI ap_CI hown hgrow hfr; have ap2 := (OwnB.past hT hgrow ap_CT.1.symm hfr); replace hT := ap2.1; have ap_CT2 := ap2.2.symm; clear ap2; replace hC := hC2; clear hC2 hown hgrow hfr) | fail)
              go_roundw
              case rel => exact ⟨i + 1, _, T, by go_num, by omega, by rw [HSP.out]; exact hC, HTl.out, HN.out, hT, ⟨ap_CT2, fun y hy => by rcases List.mem_append.1 hy with h' | h'; exact ap_CT.2 y h'; (rw [List.mem_singleton.1 h']; exact ap_TI.symm)⟩, hb⟩
              case measure => simp [intOf]; omega
            · have HSP : Hid (ptnQ q N (i + 1) = P) := by show ptnQ q N (i + 1) = _; rw [HS.out, decide_eq_false h1]; simp
              go_wp2
              go_roundw
              case rel => exact ⟨i + 1, xs, T, by go_num, by omega, by rw [HSP.out]; exact hC, HTl.out, HN.out, hT, ap_CT, hb⟩
              case measure => simp [intOf]; omega
      · have HS : Hid (ptnQ q N (i + 1) = ptnQ q N i) := by
          show ptnQ q N (i + 1) = _
          rw [ptn_succ]; unfold headQ; rw [hti]; simp
        have HN : Hid (∀ t, i + 1 ≤ t → t < N → bth T t = tkQ q (i + 1) t) := fun t h1 h2 => by rw [HTk.out t (by omega) h2, tk_taken HP.out hlt hti]
        rw [HTi.out, hti] at hc6
        go_wp2
        go_roundw
        case rel => exact ⟨i + 1, xs, T, by go_num, by omega, by rw [HS.out]; exact hC, HTl.out, HN.out, hT, ap_CT, hb⟩
        case measure => simp [intOf]; omega
    · have hkk : i = N := by omega
      have HK : Hid (i = N) := hkk
      clear hkk
      go_wp2
      go_ret
      exact ⟨_, _, rfl, by rw [← HK.out]; rw [HK.out] at hC ⊢; exact hC, hb⟩

theorem ownRows_nil (w : World) (base : Nat) : OwnRows w base (.slice none 0 0) [] [] := OwnRows.none w base
theorem c_PartitionOf (n : Int) (oa) (cap : Nat) (R : List (List Int)) (m s : Int) (w : World) (hR : RowsAt w oa R) :
    Calls Try.prog 120 #[.agg #[.int .i64 n, .slice oa R.length cap], .int .i64 m, .int .i64 s] w fun e w' => ∃ v xs, e = .returned v ∧ OwnRows w' w.heap.size v xs (ptnF n R m s) ∧ Below w.heap.size w w' := by
  have hb := (bel2 w (.cells #[.int .i64 n, .slice oa R.length cap] 26) (.cells #[.int .i64 m] 3)).alloc (by simp; omega) (.cells #[.int .i64 s] 3)
  have k1 := (Below.refl ((w.alloc (.cells #[.int .i64 n, .slice oa R.length cap] 26)).alloc (.cells #[.int .i64 m] 3)).heap.size _).alloc (Nat.le_refl _) (.cells #[.int .i64 s] 3)
  have a0 := cell_keep (two_a w #[.int .i64 n, .slice oa R.length cap] 26 #[.int .i64 m] 3 0 _ rfl) k1
  have a1 := cell_keep (two_a w #[.int .i64 n, .slice oa R.length cap] 26 #[.int .i64 m] 3 1 _ rfl) k1
  have m0 := cell_keep (two_b w #[.int .i64 n, .slice oa R.length cap] 26 #[.int .i64 m] 3 0 _ rfl) k1
  have s0 := box_at ((w.alloc (.cells #[.int .i64 n, .slice oa R.length cap] 26)).alloc (.cells #[.int .i64 m] 3)) #[.int .i64 s] 3 0 _ rfl
  simp only [World.size_alloc] at s0
  clear k1
  cases h1 : isTabF n R
  · have HM : Hid (ptnF n R m s = []) := by show ptnF n R m s = []; unfold ptnF ptnOk; rw [h1]; rfl
    go_enter Try.func120, Try.ntmps120
    go_wp2_with (first | (go_at_call 67; refine Calls.mono (Ans.eqb (c_IsTable _ _ _ _ _ (hR.keep hb)) h1) ?_; rintro e w1 ⟨rfl, hbn⟩; replace a0 := cell_keep a0 hbn; replace a1 := cell_keep a1 hbn; replace m0 := cell_keep m0 hbn; replace s0 := cell_keep s0 hbn; replace hb := bel_to (w := w) (by first | exact hb | exact hb.alloc hb.size _ | exact (hb.alloc hb.size _).alloc (Nat.le_trans hb.size (by simp)) _ | exact hb.setCell (by simp [hb.size]) _) hbn; clear hbn))
    go_ret
    exact ⟨_, _, rfl, by rw [HM.out]; exact OwnRows.none _ _, hb⟩
  cases h2 : modeF m
  · have HM : Hid (ptnF n R m s = []) := by show ptnF n R m s = []; unfold ptnF ptnOk; rw [h1, h2]; rfl
    go_enter Try.func120, Try.ntmps120
    go_wp2_with (first | (go_at_call 67; refine Calls.mono (Ans.eqb (c_IsTable _ _ _ _ _ (hR.keep hb)) h1) ?_; rintro e w1 ⟨rfl, hbn⟩; replace a0 := cell_keep a0 hbn; replace a1 := cell_keep a1 hbn; replace m0 := cell_keep m0 hbn; replace s0 := cell_keep s0 hbn; replace hb := bel_to (w := w) (by first | exact hb | exact hb.alloc hb.size _ | exact (hb.alloc hb.size _).alloc (Nat.le_trans hb.size (by simp)) _ | exact hb.setCell (by simp [hb.size]) _) hbn; clear hbn) | (go_at_call 92; refine Calls.mono (Ans.eqb (c_isMode _ _) h2) ?_; rintro e w1 ⟨rfl, hbn⟩; replace a0 := cell_keep a0 hbn; replace a1 := cell_keep a1 hbn; replace m0 := cell_keep m0 hbn; replace s0 := cell_keep s0 hbn; replace hb := bel_to (w := w) (by first | exact hb | exact hb.alloc hb.size _ | exact (hb.alloc hb.size _).alloc (Nat.le_trans hb.size (by simp)) _ | exact hb.setCell (by simp [hb.size]) _) hbn; clear hbn))
    go_ret
    exact ⟨_, _, rfl, by rw [HM.out]; exact OwnRows.none _ _, hb⟩
  cases h3 : isAttr n s
  · have HM : Hid (ptnF n R m s = []) := by show ptnF n R m s = []; unfold ptnF ptnOk; rw [h1, h2, h3]; rfl
    go_enter Try.func120, Try.ntmps120
    go_wp2_with (first | (go_at_call 67; refine Calls.mono (Ans.eqb (c_IsTable _ _ _ _ _ (hR.keep hb)) h1) ?_; rintro e w1 ⟨rfl, hbn⟩; replace a0 := cell_keep a0 hbn; replace a1 := cell_keep a1 hbn; replace m0 := cell_keep m0 hbn; replace s0 := cell_keep s0 hbn; replace hb := bel_to (w := w) (by first | exact hb | exact hb.alloc hb.size _ | exact (hb.alloc hb.size _).alloc (Nat.le_trans hb.size (by simp)) _ | exact hb.setCell (by simp [hb.size]) _) hbn; clear hbn) | (go_at_call 92; refine Calls.mono (Ans.eqb (c_isMode _ _) h2) ?_; rintro e w1 ⟨rfl, hbn⟩; replace a0 := cell_keep a0 hbn; replace a1 := cell_keep a1 hbn; replace m0 := cell_keep m0 hbn; replace s0 := cell_keep s0 hbn; replace hb := bel_to (w := w) (by first | exact hb | exact hb.alloc hb.size _ | exact (hb.alloc hb.size _).alloc (Nat.le_trans hb.size (by simp)) _ | exact hb.setCell (by simp [hb.size]) _) hbn; clear hbn) | (go_at_call 116; refine Calls.mono (Ans.eqb (c_isAttributes _ _ _) h3) ?_; rintro e w1 ⟨rfl, hbn⟩; replace a0 := cell_keep a0 hbn; replace a1 := cell_keep a1 hbn; replace m0 := cell_keep m0 hbn; replace s0 := cell_keep s0 hbn; replace hb := bel_to (w := w) (by first | exact hb | exact hb.alloc hb.size _ | exact (hb.alloc hb.size _).alloc (Nat.le_trans hb.size (by simp)) _ | exact hb.setCell (by simp [hb.size]) _) hbn; clear hbn))
    go_ret
    exact ⟨_, _, rfl, by rw [HM.out]; exact OwnRows.none _ _, hb⟩
  have HM : Hid (ptnF n R m s = ptnQ (sameB R m s) R.length R.length) := by show ptnF n R m s = _; unfold ptnF ptnOk; rw [h1, h2, h3]; rfl
  have ht := isTab_of h1
  have HT : Hid (isTabF n R = true) := h1
  have hr40 : R.length ≤ 40 := ht.2.2.1
  have hs : St s := by
    have h := h3
    unfold isAttr at h
    simp only [Bool.and_eq_true, decide_eq_true_eq] at h
    have hp := (pow_wrap (n := n) (by omega) ht.2.1).2.1
    exact ⟨h.1.2, by omega⟩
  have HP : Hid (Per (sameB R m s) R.length) := same_per h1 hs
  clear ht hs
  go_enter Try.func120, Try.ntmps120
  go_wp2_with (first | (go_at_call 67; refine Calls.mono (Ans.eqb (c_IsTable _ _ _ _ _ (hR.keep hb)) h1) ?_; rintro e w1 ⟨rfl, hbn⟩; replace a0 := cell_keep a0 hbn; replace a1 := cell_keep a1 hbn; replace m0 := cell_keep m0 hbn; replace s0 := cell_keep s0 hbn; replace hb := bel_to (w := w) (by first | exact hb | exact hb.alloc hb.size _ | exact (hb.alloc hb.size _).alloc (Nat.le_trans hb.size (by simp)) _ | exact hb.setCell (by simp [hb.size]) _) hbn; clear hbn) | (go_at_call 92; refine Calls.mono (Ans.eqb (c_isMode _ _) h2) ?_; rintro e w1 ⟨rfl, hbn⟩; replace a0 := cell_keep a0 hbn; replace a1 := cell_keep a1 hbn; replace m0 := cell_keep m0 hbn; replace s0 := cell_keep s0 hbn; replace hb := bel_to (w := w) (by first | exact hb | exact hb.alloc hb.size _ | exact (hb.alloc hb.size _).alloc (Nat.le_trans hb.size (by simp)) _ | exact hb.setCell (by simp [hb.size]) _) hbn; clear hbn) | (go_at_call 116; refine Calls.mono (Ans.eqb (c_isAttributes _ _ _) h3) ?_; rintro e w1 ⟨rfl, hbn⟩; replace a0 := cell_keep a0 hbn; replace a1 := cell_keep a1 hbn; replace m0 := cell_keep m0 hbn; replace s0 := cell_keep s0 hbn; replace hb := bel_to (w := w) (by first | exact hb | exact hb.alloc hb.size _ | exact (hb.alloc hb.size _).alloc (Nat.le_trans hb.size (by simp)) _ | exact hb.setCell (by simp [hb.size]) _) hbn; clear hbn))
  refine (c_classesOf_S R.length hr40 _ _ _ (sameB R m s) HP.out _ ?_).mono ?_
  · intro W i k hik hk hB
    exact c_clS n oa cap R m s i k _ _ _ W ((hR.keep hb).keep hB) HT.out (by omega) hk (cell_keep m0 hB) (cell_keep a1 hB) (cell_keep s0 hB)
  rintro e w2 ⟨v2, xs, rfl, hO, hbn⟩
  replace hO := hO.based hb.size
  replace hb := bel_to hb hbn
  clear hbn
  go_wp2
  go_ret
  exact ⟨_, _, rfl, by rw [HM.out]; exact hO, hb⟩
end Go.Proofs.Ytjbmpnbfiahdhaa
namespace Go.Proofs.Ytjbmpnbfiahdhaa
open Go.RowKit
set_option linter.unusedVariables false
set_option maxRecDepth 100000

theorem OwnRows.past0 {w w' : World} {B : Nat} {v u u' : Value} {xs : List Value} {R : List (List Int)} (h : OwnRows w B v xs R) (hg : w.grownBy w' u.ownBlock) (ha : ApartR v xs u) (hf : Fresh w u u') : OwnRows w' B v xs R ∧ ApartR v xs u' := by
  refine ⟨OwnRows.far h hg ha, Apart.next h.outer ha.1 hf, fun y hy => ?_⟩
  obtain ⟨j, _, o', c, e, h2, _⟩ := h.one hy
  exact Apart.next h2 (ha.2 y hy) hf
theorem OwnI.news {w : World} {base : Nat} {oa : Option Addr} {n c : Nat} {L : List Int} (h : OwnI w base (.slice oa n c) L) (h0 : 0 < L.length) : ∃ g, oa = some ⟨g, 0, none⟩ ∧ ∀ j u, (L.map encI)[j]? = some u → w.cell? ((⟨g, 0, none⟩ : Addr).add j) = some u := by
  obtain ⟨oa', c', e, hg⟩ := owns_cells h
  simp only [Value.slice.injEq] at e
  obtain ⟨rfl, _, rfl⟩ := e
  obtain ⟨g, h1, _, _, _, _, _⟩ := hg h0
  subst h1
  exact ⟨g, rfl, World.ownsRow.cells h rfl⟩
set_option maxHeartbeats 3200000 in
theorem c_l5Classes (n : Int) (oa) (cap : Nat) (R : List (List Int)) (m s : Int) (w : World) (hR : RowsAt w oa R) (ht : isTabF n R = true) (hs : St s) :
    Calls Try.prog 123 #[.agg #[.int .i64 n, .slice oa R.length cap], .int .i64 m, .int .i64 s] w fun e w' => ∃ v xs, e = .returned v ∧ OwnRows w' w.heap.size v xs (ptnQ (sameB R m s) R.length R.length) ∧ Below w.heap.size w w' := by
  obtain ⟨i0, hi, hz0, hz1, hz2⟩ := info_parts info_int
  obtain ⟨j0, hj, hy0, hy1, hy2⟩ := info_parts info_ints
  obtain ⟨hn1, hn5, hr40, hlen⟩ := isTab_of ht
  have HT : Hid (isTabF n R = true) := ht
  have HP : Hid (Per (sameB R m s) R.length) := same_per ht hs
  have HSS : Hid (St s ∧ ∀ k, k < R.length → (row R k).length ≤ 5) := ⟨hs, fun k hk => by have := hlen k hk; omega⟩
  have HQ : Hid (∀ i k, sameB R m s i k = ins s (agreeF m (row R i) (row R k))) := fun i k => rfl
  have hb := (bel2 w (.cells #[.int .i64 n, .slice oa R.length cap] 26) (.cells #[] 68)).alloc (by simp; omega) (.cells #[] 3)
  have k1 := (Below.refl ((w.alloc (.cells #[.int .i64 n, .slice oa R.length cap] 26)).alloc (.cells #[] 68)).heap.size _).alloc (Nat.le_refl _) (.cells #[] 3)
  have a0 := cell_keep (two_a w #[.int .i64 n, .slice oa R.length cap] 26 #[] 68 0 _ rfl) k1
  have a1 := cell_keep (two_a w #[.int .i64 n, .slice oa R.length cap] 26 #[] 68 1 _ rfl) k1
  have hC0 : OwnRows ((w.alloc (.cells #[.int .i64 n, .slice oa R.length cap] 26)).alloc (.cells #[] 68)) (w.heap.size + 1) (.slice (some ⟨w.heap.size + 1, 0, none⟩) 0 0) [] [] := by
    have h := OwnRows.empty (w.alloc (.cells #[.int .i64 n, .slice oa R.length cap] 26)) _ (Nat.le_refl _)
    simpa only [World.size_alloc] using h
  have hC := hC0.keep k1
  have hD0 := OwnI.empty ((w.alloc (.cells #[.int .i64 n, .slice oa R.length cap] 26)).alloc (.cells #[] 68)) _ (Nat.le_refl _)
  have ap_CD := hC0.fresh hD0
  have hD := hD0.based (show w.heap.size + 1 ≤ _ by simp)
  simp only [World.size_alloc] at hD ap_CD
  clear k1 hD0 hC0 ht hs hlen
  have hnl : 0 < R.length ∨ R.length = 0 := by omega
  generalize hq : sameB R m s = q at *
  go_enter Try.func123, Try.ntmps123
  go_wp2
  go_loopw [7, 8, 9] (fun vC vD i wr => ∃ (i' : Nat) (xs : List Value), i = .int .i64 i' ∧ i' ≤ R.length ∧ OwnRows wr (w.heap.size + 1) vC xs (ptnQ q R.length i') ∧ OwnI wr (w.heap.size + 1) vD (ptnQ q R.length i').flatten ∧ ApartR vC xs vD ∧ wr.cell? ⟨w.heap.size, 0, none⟩ = some (.int .i64 n) ∧ wr.cell? ⟨w.heap.size, 1, none⟩ = some (.slice oa R.length cap) ∧ Below w.heap.size w wr) (fun _ _ i _ => R.length - (intOf i).toNat)
  case atStart => exact ⟨0, [], rfl, Nat.zero_le _, hC, hD, ap_CD, a0, a1, hb⟩
  case round =>
    clear hC hD ap_CD a0 a1 hb
    obtain ⟨i, xs, rfl, hi', hC, hD, ap_CD, a0, a1, hb⟩ := hrel
    have hpl := ptn_len q R.length i
    have hxl := hC.len
    have hxs : xs.length ≤ 40 := by omega
    have hfl := flat_len (q := q) hr40 i
    have hflR : ((ptnQ q R.length i).flatten).length ≤ Room := by unfold Room; omega
    clear hxl
    by_cases hlt : i < R.length
    · have HF0 : Hid (inB' (ptnQ q R.length i).flatten (i : Int) = tkQ q i i) := by
        show inB' (ptnQ q R.length i).flatten (i : Int) = tkQ q i i
        rw [Bool.eq_iff_iff]
        have := ptn_flat HP.out (Nat.le_refl i) hlt
        simpa [inB'] using this
      cases hti : tkQ q i i
      · have hin : inB' (ptnQ q R.length i).flatten (i : Int) = false := HF0.out.trans hti
        have HS : Hid (ptnQ q R.length (i + 1) = ptnQ q R.length i ++ (if decide (1 < (clsTo q i R.length).length) then [clsTo q i R.length] else [])) := by
          show ptnQ q R.length (i + 1) = _
          rw [ptn_succ]; unfold headQ; rw [hti]; rfl
        have HF : Hid (clsTo q i (i + 1) = [(i : Int)]) := cls_first q i
        have HFX : Hid ((ptnQ q R.length (i + 1)).flatten = (ptnQ q R.length i).flatten ++ (if decide (1 < (clsTo q i R.length).length) then clsTo q i R.length else [])) := by
          show (ptnQ q R.length (i + 1)).flatten = _
          rw [HS.out, List.flatten_append]; split <;> simp
        clear HF0
        generalize (ptnQ q R.length i).flatten = F at *
        generalize ptnQ q R.length i = P at *
        obtain ⟨oD, cD, rfl⟩ := hD.shape
        go_wp2_with fail
        refine Calls.mono (Ans.eqb (c_l2Has _ _ _ _ _ (hD.ints rfl hflR)) hin) ?_
        rintro e w1 ⟨rfl, hbn⟩
        replace a0 := cell_keep a0 hbn
        replace a1 := cell_keep a1 hbn
        replace hC := hC.keep hbn
        replace hD := hD.keep hbn
        replace hb := bel_to hb hbn
        clear hbn hin
        have hbe := World.block_lt_of_cell? _ _ a1
        have hI := OwnI.single w1 (w.heap.size + 1) hbe (i : Int)
        have hIf := OwnI.single w1 w1.heap.size (Nat.le_refl _) (i : Int)
        have ap_CI := hC.fresh hIf
        have ap_DI := apart_old hD hIf
        have hba := (Below.refl w1.heap.size w1).alloc (Nat.le_refl _) (.cells #[.int .i64 (i : Int)] 3)
        replace hC := hC.keep hba
        replace hD := hD.keep hba
        replace a0 := cell_keep a0 hba
        replace a1 := cell_keep a1 hba
        replace hb := bel_to hb hba
        clear hIf hba hbe
        go_wp2
        go_loopw [10, 11] (fun vI k' wr => ∃ k : Nat, k' = .int .i64 k ∧ i < k ∧ k ≤ R.length ∧ OwnI wr (w.heap.size + 1) vI (clsTo q i k) ∧ OwnRows wr (w.heap.size + 1) u7 xs P ∧ OwnI wr (w.heap.size + 1) (.slice oD F.length cD) F ∧ ApartR u7 xs (.slice oD F.length cD) ∧ ApartR u7 xs vI ∧ Apart (.slice oD F.length cD) vI ∧ wr.cell? ⟨w.heap.size, 0, none⟩ = some (.int .i64 n) ∧ wr.cell? ⟨w.heap.size, 1, none⟩ = some (.slice oa R.length cap) ∧ Below w.heap.size w wr) (fun _ k _ => R.length - (intOf k).toNat)
        case atStart => exact ⟨i + 1, by go_num, by omega, by omega, by rw [HF.out]; exact hI, hC, hD, ap_CD, ap_CI, ap_DI, a0, a1, hb⟩
        case round =>
          clear hC hD hI ap_CD ap_CI ap_DI a0 a1 hb HF
          obtain ⟨k, rfl, hik, hk, hI, hC, hD, ap_CD, ap_CI, ap_DI, a0, a1, hb⟩ := hrel
          have hcl := cls_len q i k
          by_cases hlk : k < R.length
          · have HCS : Hid (clsTo q i (k + 1) = clsTo q i k ++ (if q i k then [(k : Int)] else [])) := by
              show clsTo q i (k + 1) = _
              rw [cls_succ, decide_eq_true hik]; rfl
            have HV : Hid (q i k = ins s (agreeF m (row R i) (row R k))) := HQ.out i k
            have HSX : Hid (St (agreeF m (row R i) (row R k))) := agreeF_st (HSS.out.2 i hlt)
            generalize clsTo q i k = L at *
            go_wp2_with fail
            refine Calls.mono (c_l4Agree n _ _ _ m i k _ (hR.keep hb) HT.out hlt hlk) ?_
            rintro e w2 ⟨rfl, hbn⟩
            replace a0 := cell_keep a0 hbn
            replace a1 := cell_keep a1 hbn
            replace hC := hC.keep hbn
            replace hD := hD.keep hbn
            replace hI := hI.keep hbn
            replace hb := bel_to hb hbn
            clear hbn
            generalize agreeF m (row R i) (row R k) = x at *
            cases hqk : q i k
            · have h1' : (bits BinOp.and .i64 x s == s) = false := (and_swap HSX.out HSS.out.1).trans (HV.out.symm.trans hqk)
              go_wp2
              go_roundw
              case rel => exact ⟨k + 1, by go_num, by omega, by omega, by rw [HCS.out, hqk]; simpa using hI, hC, hD, ap_CD, ap_CI, ap_DI, a0, a1, hb⟩
              case measure => simp [intOf]; omega
            · have h1' : (bits BinOp.and .i64 x s == s) = true := (and_swap HSX.out HSS.out.1).trans (HV.out.symm.trans hqk)
              go_wp2_with (first | (at_builtin; refine wpList_append_fresh rfl _ _ 68 rfl (w.heap.size + 1) 3 i0 (.int .i64 0) 1 8 Try.underlying68 hi hz0 hz1 hz2 rfl (by decide) _ _ _ rfl (World.ownsRow.alloc hI _) _ 1 1 [.int .i64 (k : Int)] rfl rfl (by intro j u hj; match j, hj with | 0, hj => simp at hj; subst hj; simp [Addr.add]) (by intro u hu; simp at hu; subst hu; rfl) (by unfold maxLen; omega) (by omega) (by have := World.block_lt_of_cell? _ _ a1; simp at this; simp; omega) ?_; intro v' w3 hown hgrow hfr; replace hb := (hb.alloc hb.size _).grown hgrow (by have := hb.size; simp; omega) (fun g hg => Nat.le_trans (Nat.le_succ _) (World.ownsRow.lt hI g hg).1); replace a0 := cell_gr (cell_al a0 _) (World.ownsRow.alloc hI _) (by omega) hgrow; replace a1 := cell_gr (cell_al a1 _) (World.ownsRow.alloc hI _) (by omega) hgrow; obtain ⟨hC, ap_CI⟩ := OwnRows.past hC hgrow ap_CI hfr; obtain ⟨hD, ap_DI⟩ := OwnI.past hD hgrow ap_DI hfr; replace hI := OwnI.snoc hown; clear hown hgrow hfr) | fail)
              go_roundw
              case rel => exact ⟨k + 1, by go_num, by omega, by omega, by rw [HCS.out, hqk]; exact hI, hC, hD, ap_CD, ap_CI, ap_DI, a0, a1, hb⟩
              case measure => simp [intOf]; omega
          · have hkk : k = R.length := by omega
            have HCk : Hid (clsTo q i k = clsTo q i R.length) := by show clsTo q i k = clsTo q i R.length; rw [hkk]
            clear hkk
            rw [HCk.out] at hI
            have hcN := cls_len q i R.length
            generalize clsTo q i R.length = L at *
            obtain ⟨oL, cL, rfl⟩ := hI.shape
            by_cases h1 : 1 < L.length
            · have HSP : Hid (ptnQ q R.length (i + 1) = P ++ [L]) := by show ptnQ q R.length (i + 1) = _; rw [HS.out, decide_eq_true h1]; rfl
              have HFL : Hid ((ptnQ q R.length (i + 1)).flatten = F ++ L) := by show (ptnQ q R.length (i + 1)).flatten = _; rw [HFX.out, decide_eq_true h1]; rfl
              have hxl2 := hC.len
              obtain ⟨gL, rfl, _⟩ := hI.news (by omega)
              have hq : True := trivial
              go_wp2_with (first | (clear hq; at_builtin; refine wpList_append_fresh rfl _ _ 24 rfl (w.heap.size + 1) 68 j0 (.slice none 0 0) 1 24 Try.underlying24 hj hy0 hy1 hy2 rfl (by decide) _ _ _ rfl (World.ownsRow.alloc hC.outer _) _ 1 1 [.slice (some ⟨gL, 0, none⟩) L.length cL] rfl rfl (by intro j u hj; match j, hj with | 0, hj => simp at hj; subst hj; simp [Addr.add]) (by intro u hu; simp at hu; subst hu; rfl) (by unfold maxLen; omega) (by omega) (by have := World.block_lt_of_cell? _ _ a1; simp at this; simp; omega) ?_; intro v' w1 hown hgrow hfr; replace hb := (hb.alloc hb.size _).grown hgrow (by have := hb.size; simp; omega) (fun g hg => Nat.le_trans (Nat.le_succ _) (World.ownsRow.lt hC.outer g hg).1); replace a0 := cell_gr (cell_al a0 _) (World.ownsRow.alloc hC.outer _) (by omega) hgrow; replace a1 := cell_gr (cell_al a1 _) (World.ownsRow.alloc hC.outer _) (by omega) hgrow; have hC2 := OwnRows.snoc hC hI ap_CI hown hgrow hfr; have apI := (OwnI.past hI hgrow ap_CI.1.symm hfr); have apD := (OwnI.past hD hgrow ap_CD.1.symm hfr); replace hI := apI.1; replace hD := apD.1; have ap_CD2 := (show ApartR v' (xs ++ [.slice (some ⟨gL, 0, none⟩) L.length cL]) (.slice oD F.length cD) from ⟨apD.2.symm, fun y hy => by rcases List.mem_append.1 hy with h' | h'; exact ap_CD.2 y h'; (rw [List.mem_singleton.1 h']; exact ap_DI.symm)⟩); clear apI apD; replace hC := hC2; clear hC2 hown hgrow hfr; obtain ⟨gL', eL, hnews⟩ := hI.news (by omega); obtain rfl : gL = gL' := by simpa using eL) | (at_builtin; refine wpList_append_fresh rfl _ _ 68 rfl (w.heap.size + 1) 3 i0 (.int .i64 0) 1 8 Try.underlying68 hi hz0 hz1 hz2 rfl (by decide) (.slice oD F.length cD) F.length (F.map encI) rfl (show _ from hD) _ L.length cL (L.map encI) rfl (by simp) hnews (ones' L) (by unfold maxLen; omega) (by omega) (World.block_lt_of_cell? _ _ a1) ?_; intro v'' w2 hown hgrow hfr; replace hb := hb.grown hgrow hb.size (fun g hg => Nat.le_trans (Nat.le_succ _) (World.ownsRow.lt hD g hg).1); replace a0 := cell_gr a0 hD (by omega) hgrow; replace a1 := cell_gr a1 hD (by omega) hgrow; obtain ⟨hC, ap_CD3⟩ := OwnRows.past0 hC hgrow ap_CD2 hfr; have hD2 := (show OwnI w2 (w.heap.size + 1) v'' (F ++ L) from by unfold OwnI; rw [List.length_append, List.map_append]; exact hown); clear hown hgrow hfr) | fail)
              go_roundw
              case rel => exact ⟨i + 1, _, by go_num, by omega, by rw [HSP.out]; exact hC, by rw [HFL.out]; exact hD2, ap_CD3, a0, a1, hb⟩
              case measure => simp [intOf]; omega
            · have HSP : Hid (ptnQ q R.length (i + 1) = P) := by show ptnQ q R.length (i + 1) = _; rw [HS.out, decide_eq_false h1]; simp
              go_wp2
              go_roundw
              case rel => exact ⟨i + 1, xs, by go_num, by omega, by rw [HSP.out]; exact hC, by rw [HFX.out, decide_eq_false h1]; simpa using hD, ap_CD, a0, a1, hb⟩
              case measure => simp [intOf]; omega
      · have hin : inB' (ptnQ q R.length i).flatten (i : Int) = true := HF0.out.trans hti
        have HS : Hid (ptnQ q R.length (i + 1) = ptnQ q R.length i) := by
          show ptnQ q R.length (i + 1) = _
          rw [ptn_succ]; unfold headQ; rw [hti]; simp
        have HFX : Hid ((ptnQ q R.length (i + 1)).flatten = (ptnQ q R.length i).flatten) := by show (ptnQ q R.length (i + 1)).flatten = _; rw [HS.out]
        clear HF0
        generalize (ptnQ q R.length i).flatten = F at *
        generalize ptnQ q R.length i = P at *
        obtain ⟨oD, cD, rfl⟩ := hD.shape
        go_wp2_with fail
        refine Calls.mono (Ans.eqb (c_l2Has _ _ _ _ _ (hD.ints rfl hflR)) hin) ?_
        rintro e w1 ⟨rfl, hbn⟩
        replace a0 := cell_keep a0 hbn
        replace a1 := cell_keep a1 hbn
        replace hC := hC.keep hbn
        replace hD := hD.keep hbn
        replace hb := bel_to hb hbn
        clear hbn hin
        go_wp2
        go_roundw
        case rel => exact ⟨i + 1, xs, by go_num, by omega, by rw [HS.out]; exact hC, by rw [HFX.out]; exact hD, ap_CD, a0, a1, hb⟩
        case measure => simp [intOf]; omega
    · have hkk : i = R.length := by omega
      have HK : Hid (i = R.length) := hkk
      clear hkk
      go_wp2
      go_ret
      exact ⟨_, _, rfl, by have h := hC.based (Nat.le_succ w.heap.size); rw [HK.out] at h; exact h, hb⟩
end Go.Proofs.Ytjbmpnbfiahdhaa
