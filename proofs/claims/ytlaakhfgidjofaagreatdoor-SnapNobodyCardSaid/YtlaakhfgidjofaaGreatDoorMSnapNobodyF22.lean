/- Plain laws of layer 15: a table in which a number lies at its own place, or behind it: found, put, dropped. -/
import Derived.Test.YtlaakhfgidjofaaGreatDoorMSnapNobodyF0
import Derived.Laws.Bits128
import Derived.Test.YtlaakhfgidjofaaGreatDoorMSnapNobodyF1
import Derived.BigQuiet
import Derived.Deep.QuietTactic
import Derived.Test.YtlaakhfgidjofaaGreatDoorProg
import Derived.Test.YtlaakhfgidjofaaGreatDoorMSnapNobodyF5
import Derived.Test.YtlaakhfgidjofaaGreatDoorMSnapNobodyF13
import Derived.Deep.MidRow
namespace Go.Proofs.YtlaakhfgidjofaaGreatDoor
set_option linter.unusedVariables false
set_option linter.unusedSimpArgs false
def ad (N a d : Nat) : Nat := if a + d < N then a + d else a + d - N
def dst (N a b : Nat) : Nat := if a ≤ b then b - a else b + N - a
theorem ad_lt {N a d : Nat} (ha : a < N) (hd : d < N) : ad N a d < N := by unfold ad; split <;> omega
theorem ad_zero {N a : Nat} (ha : a < N) : ad N a 0 = a := by unfold ad; split <;> omega
theorem dst_lt {N a b : Nat} (ha : a < N) (hb : b < N) : dst N a b < N := by unfold dst; split <;> omega
theorem ad_dst {N a b : Nat} (ha : a < N) (hb : b < N) : ad N a (dst N a b) = b := by unfold ad dst; split <;> split <;> omega
theorem dst_ad {N a d : Nat} (ha : a < N) (hd : d < N) : dst N a (ad N a d) = d := by unfold ad dst; split <;> split <;> omega
theorem ad_inj {N a d e : Nat} (ha : a < N) (hd : d < N) (he : e < N) (h : ad N a d = ad N a e) : d = e := by
  have := congrArg (dst N a) h
  rwa [dst_ad ha hd, dst_ad ha he] at this
theorem ad_ad {N a d e : Nat} (ha : a < N) (h : d + e < N) : ad N (ad N a d) e = ad N a (d + e) := by unfold ad; split <;> split <;> split <;> omega
theorem ad_from {N a d e : Nat} (ha : a < N) (hde : d ≤ e) (he : e < N) : ad N (ad N a d) (e - d) = ad N a e := by rw [ad_ad ha (by omega), show d + (e - d) = e by omega]
section
variable {V : Type}
abbrev Slots (V : Type) := List (Option (Nat × V))
def tAt (S : Slots V) (i : Nat) : Option (Nat × V) := S.getD i none
theorem tAt_set (S : Slots V) (p i : Nat) (e : Option (Nat × V)) (hp : p < S.length) : tAt (S.set p e) i = if i = p then e else tAt S i := by
  unfold tAt
  by_cases h : i = p
  · subst h; rw [if_pos rfl, List.getD_eq_getElem?_getD, List.getElem?_set_self hp]; rfl
  · rw [if_neg h, List.getD_eq_getElem?_getD, List.getElem?_set_ne (fun x => h x.symm), List.getD_eq_getElem?_getD]
structure FInv (hm : Nat → Nat) (S : Slots V) : Prop where
  home : ∀ id, hm id < S.length
  path : ∀ i id x, i < S.length → tAt S i = some (id, x) → ∀ d, d < dst S.length (hm id) i → tAt S (ad S.length (hm id) d) ≠ none
  one : ∀ i j id x y, i < S.length → j < S.length → tAt S i = some (id, x) → tAt S j = some (id, y) → i = j
structure FAt (hm : Nat → Nat) (S : Slots V) (id d : Nat) : Prop where
  lt : d < S.length
  way : ∀ e, e < d → ∃ k x, tAt S (ad S.length (hm id) e) = some (k, x) ∧ k ≠ id
  fin : tAt S (ad S.length (hm id) d) = none ∨ ∃ x, tAt S (ad S.length (hm id) d) = some (id, x)
theorem FAt.none_there {hm : Nat → Nat} {S : Slots V} (h : FInv hm S) {id d : Nat} (f : FAt hm S id d) (hn : tAt S (ad S.length (hm id) d) = none) (i : Nat) (x : V) (hi : i < S.length) : tAt S i ≠ some (id, x) := by
  intro he
  have hp := h.path i id x hi he
  have hd := ad_dst (h.home id) hi
  have hl := dst_lt (h.home id) hi
  rcases Nat.lt_trichotomy d (dst S.length (hm id) i) with h1 | h1 | h1
  · exact hp d h1 hn
  · rw [h1, hd, he] at hn; cases hn
  · obtain ⟨k, y, h2, h3⟩ := f.way _ h1
    rw [hd, he] at h2
    simp only [Option.some.injEq, Prod.mk.injEq] at h2
    exact h3 h2.1.symm
theorem FAt.unique {hm : Nat → Nat} {S : Slots V} {id d e : Nat} (f : FAt hm S id d) (g : FAt hm S id e) : d = e := by
  rcases Nat.lt_trichotomy d e with h | h | h
  · obtain ⟨k, x, h1, h2⟩ := g.way d h
    rcases f.fin with h3 | ⟨y, h3⟩
    · rw [h3] at h1; cases h1
    · rw [h3] at h1; simp only [Option.some.injEq, Prod.mk.injEq] at h1; exact absurd h1.1.symm h2
  · exact h
  · obtain ⟨k, x, h1, h2⟩ := f.way e h
    rcases g.fin with h3 | ⟨y, h3⟩
    · rw [h3] at h1; cases h1
    · rw [h3] at h1; simp only [Option.some.injEq, Prod.mk.injEq] at h1; exact absurd h1.1.symm h2
theorem FInv.put {hm : Nat → Nat} {S : Slots V} (h : FInv hm S) {id d : Nat} (f : FAt hm S id d) (hn : tAt S (ad S.length (hm id) d) = none) (x : V) : FInv hm (S.set (ad S.length (hm id) d) (some (id, x))) := by
  have hp := ad_lt (h.home id) f.lt
  have hno := f.none_there h hn
  generalize hpp : ad S.length (hm id) d = p at *
  constructor
  · intro k; rw [List.length_set]; exact h.home k
  · intro i k y hi he e hlt
    rw [List.length_set] at hi hlt ⊢
    rw [tAt_set S p _ _ hp]
    split
    · simp
    · rename_i hne
      rw [tAt_set S p _ _ hp] at he
      split at he
      · rename_i hip
        simp only [Option.some.injEq, Prod.mk.injEq] at he
        obtain ⟨rfl, rfl⟩ := he
        subst hip
        rw [← hpp, dst_ad (h.home id) f.lt] at hlt
        obtain ⟨k, y, h2, _⟩ := f.way e hlt
        rw [h2]; simp
      · exact h.path i k y hi he e hlt
  · intro i j k y z hi hj hei hej
    rw [List.length_set] at hi hj
    rw [tAt_set S p _ _ hp] at hei hej
    split at hei
    · rename_i h1
      split at hej
      · rename_i h2; omega
      · simp only [Option.some.injEq, Prod.mk.injEq] at hei
        obtain ⟨rfl, rfl⟩ := hei
        exact absurd hej (hno j z hj)
    · split at hej
      · simp only [Option.some.injEq, Prod.mk.injEq] at hej
        obtain ⟨rfl, rfl⟩ := hej
        exact absurd hei (hno i y hi)
      · exact h.one i j k y z hi hj hei hej
structure DInv (hm : Nat → Nat) (C : Slots V) (h k m : Nat) : Prop where
  hh : h < C.length
  hk : 1 ≤ k
  km : k ≤ m
  mN : m < C.length
  hole : tAt C h = none
  used : ∀ r, 1 ≤ r → r < m → tAt C (ad C.length h r) ≠ none
  fin : tAt C (ad C.length h m) = none
  home : ∀ id, hm id < C.length
  path : ∀ i id x, i < C.length → tAt C i = some (id, x) → ∀ d, d < dst C.length (hm id) i → tAt C (ad C.length (hm id) d) ≠ none ∨ (ad C.length (hm id) d = h ∧ ∃ r, k ≤ r ∧ r < m ∧ i = ad C.length h r)
  one : ∀ i j id x y, i < C.length → j < C.length → tAt C i = some (id, x) → tAt C j = some (id, y) → i = j
theorem DInv.move {hm : Nat → Nat} {C : Slots V} {h k m : Nat} (D : DInv hm C h k m) (hkm : k < m) {id : Nat} {x : V} (he : tAt C (ad C.length h k) = some (id, x)) (hge : k ≤ dst C.length (hm id) (ad C.length h k)) :
    DInv hm ((C.set h (some (id, x))).set (ad C.length h k) none) (ad C.length h k) 1 (m - k) := by
  have hkN : k < C.length := Nat.lt_trans hkm D.mN
  have hmN := D.mN
  have hk1 := D.hk
  have hne : ∀ r, 1 ≤ r → r < C.length → ad C.length h r ≠ h := fun r h1 h2 e => by
    have := ad_inj (e := 0) D.hh h2 (by omega) (e.trans (ad_zero D.hh).symm)
    omega
  obtain ⟨a, ha⟩ : ∃ a, ad C.length h k = a := ⟨_, rfl⟩
  have haN : a < C.length := by rw [← ha]; exact ad_lt D.hh hkN
  have hah : a ≠ h := by rw [← ha]; exact hne k D.hk hkN
  rw [ha] at he hge ⊢
  have hlen : ((C.set h (some (id, x))).set a none).length = C.length := by rw [List.length_set, List.length_set]
  have hT : ∀ i, tAt ((C.set h (some (id, x))).set a none) i = if i = a then none else if i = h then some (id, x) else tAt C i := by
    intro i
    rw [tAt_set _ a _ _ (by rw [List.length_set]; exact haN), tAt_set C h _ _ D.hh]
  have hadr : ∀ r, k + r < C.length → ad C.length a r = ad C.length h (k + r) := fun r hr => by rw [← ha]; exact ad_ad D.hh hr
  refine ⟨by rw [hlen]; exact haN, Nat.le_refl _, by omega, by rw [hlen]; omega, by rw [hT, if_pos rfl], ?_, ?_, by intro j; rw [hlen]; exact D.home j, ?_, ?_⟩
  · intro r h1 h2
    have e1 := hadr r (by omega)
    rw [hlen, hT, if_neg, if_neg, e1]
    · exact D.used (k + r) (by omega) (by omega)
    · rw [e1]; exact hne (k + r) (by omega) (by omega)
    · intro e
      rw [e1, ← ha] at e
      have := ad_inj D.hh (by omega) hkN e
      omega
  · have e1 := hadr (m - k) (by omega)
    rw [show k + (m - k) = m by omega] at e1
    rw [hlen, hT, e1, if_neg, if_neg]
    · exact D.fin
    · exact hne m (by omega) hmN
    · intro e
      rw [← ha] at e
      have := ad_inj D.hh hmN hkN e
      omega
  · intro i j y hi hej d hd
    rw [hlen] at hi hd ⊢
    rw [hT] at hej ⊢
    by_cases hia : i = a
    · rw [if_pos hia] at hej; cases hej
    rw [if_neg hia] at hej
    by_cases hih : i = h
    · -- the thing that has moved
      rw [if_pos hih] at hej
      simp only [Option.some.injEq, Prod.mk.injEq] at hej
      obtain ⟨rfl, rfl⟩ := hej
      subst hih
      left
      have hDa := dst_lt (D.home id) haN
      have hDh := dst_lt (D.home id) D.hh
      have hdd : dst C.length (hm id) i + k = dst C.length (hm id) a := by
        have e1 : ad C.length (hm id) (dst C.length (hm id) a - k) = i := by
          have e2 := ad_ad (e := k) (D.home id) (show dst C.length (hm id) a - k + k < C.length by omega)
          rw [show dst C.length (hm id) a - k + k = dst C.length (hm id) a by omega, ad_dst (D.home id) haN] at e2
          have e3 := ad_lt (D.home id) (show dst C.length (hm id) a - k < C.length by omega)
          have e4 : ad C.length (ad C.length (hm id) (dst C.length (hm id) a - k)) k = ad C.length i k := by rw [e2, ha]
          revert e4
          generalize ad C.length (hm id) (dst C.length (hm id) a - k) = q at e3 ⊢
          unfold ad
          split <;> split <;> omega
        have := dst_ad (D.home id) (show dst C.length (hm id) a - k < C.length by omega)
        rw [e1] at this
        omega
      have hne2 : ad C.length (hm id) d ≠ a := by
        intro e
        have := ad_inj (D.home id) (by omega) hDa (e.trans (ad_dst (D.home id) haN).symm)
        omega
      have hne3 : ad C.length (hm id) d ≠ i := by
        intro e
        have := ad_inj (D.home id) (by omega) hDh (e.trans (ad_dst (D.home id) D.hh).symm)
        omega
      rw [if_neg hne2, if_neg hne3]
      rcases D.path a id x haN he d (by omega) with h1 | ⟨h1, _⟩
      · exact h1
      · exact absurd h1 hne3
    rw [if_neg hih] at hej
    have hpath := D.path i j y hi hej
    have hlt := dst_lt (D.home j) hi
    have had := ad_dst (D.home j) hi
    by_cases hx : ad C.length (hm j) d = a
    · right
      refine ⟨hx, dst C.length (hm j) i - d, by omega, ?_, ?_⟩
      · refine Classical.byContradiction fun hc => ?_
        have hq2 : ad C.length a (m - k) = ad C.length h m := by rw [hadr (m - k) (by omega), show k + (m - k) = m by omega]
        have hfin := D.fin
        by_cases hq : d + (m - k) < dst C.length (hm j) i
        · rcases hpath (d + (m - k)) hq with h1 | ⟨h1, _⟩
          · rw [← ad_ad (D.home j) (by omega), hx, hq2] at h1
            exact h1 hfin
          · rw [← ad_ad (D.home j) (by omega), hx, hq2] at h1
            exact hne m (by omega) hmN h1
        · have : d + (m - k) = dst C.length (hm j) i := by omega
          rw [← this, ← ad_ad (D.home j) (by omega), hx, hq2] at had
          rw [had] at hfin
          rw [hfin] at hej; cases hej
      · have := ad_from (D.home j) (Nat.le_of_lt hd) hlt
        rw [hx] at this
        rw [this, had]
    · left
      rw [if_neg hx]
      by_cases hy : ad C.length (hm j) d = h
      · rw [if_pos hy]; simp
      · rw [if_neg hy]
        rcases hpath d hd with h1 | ⟨h1, _⟩
        · exact h1
        · exact absurd h1 hy
  · intro i j n y z hi hj hei hej
    rw [hlen] at hi hj
    rw [hT] at hei hej
    have key : ∀ i y, i < C.length → (if i = a then none else if i = h then some (id, x) else tAt C i) = some (n, y) → ∃ i', i' < C.length ∧ tAt C i' = some (n, y) ∧ (i' = i ∧ i ≠ h ∧ i ≠ a ∨ i' = a ∧ i = h) := by
      intro i y hi hz
      split at hz
      · cases hz
      · rename_i q1
        split at hz
        · rename_i q2
          simp only [Option.some.injEq, Prod.mk.injEq] at hz
          obtain ⟨rfl, rfl⟩ := hz
          exact ⟨a, haN, he, .inr ⟨rfl, q2⟩⟩
        · rename_i q2
          exact ⟨i, hi, hz, .inl ⟨rfl, q2, q1⟩⟩
    obtain ⟨i', a1, a2, a3⟩ := key i y hi hei
    obtain ⟨j', b1, b2, b3⟩ := key j z hj hej
    have := D.one i' j' n y z a1 b1 a2 b2
    rcases a3 with ⟨_, _, _⟩ | ⟨_, _⟩ <;> rcases b3 with ⟨_, _, _⟩ | ⟨_, _⟩ <;> omega
theorem DInv.done {hm : Nat → Nat} {C : Slots V} {h m : Nat} (D : DInv hm C h m m) : FInv hm C :=
  ⟨D.home, fun i id x hi he d hd => by
    rcases D.path i id x hi he d hd with h1 | ⟨_, r, h2, h3, _⟩
    · exact h1
    · omega, D.one⟩
def entsF (S : Slots V) : List (Nat × V) := S.filterMap id
theorem ents_split (S : Slots V) (p : Nat) (hp : p < S.length) (e : Option (Nat × V)) : entsF (S.set p e) = (S.take p).filterMap id ++ e.toList ++ (S.drop (p + 1)).filterMap id := by
  unfold entsF
  rw [List.set_eq_take_append_cons_drop, if_pos hp, List.filterMap_append]
  cases e with
  | none => simp
  | some e => simp
theorem ents_self (S : Slots V) (p : Nat) (hp : p < S.length) : entsF S = (S.take p).filterMap id ++ (tAt S p).toList ++ (S.drop (p + 1)).filterMap id := by
  have h := ents_split S p hp S[p]
  rw [List.set_getElem_self] at h
  rw [h]
  unfold tAt
  rw [List.getD_eq_getElem?_getD, List.getElem?_eq_getElem hp]; rfl
theorem ents_put (S : Slots V) (p : Nat) (hp : p < S.length) (hn : tAt S p = none) (e : Nat × V) : (entsF (S.set p (some e))).Perm (e :: entsF S) := by
  rw [ents_split S p hp, ents_self S p hp, hn]
  simp only [Option.toList_some, Option.toList_none, List.append_nil, List.append_assoc, List.singleton_append]
  exact List.perm_middle
theorem ents_mem (S : Slots V) (e : Nat × V) : e ∈ entsF S ↔ ∃ i, i < S.length ∧ tAt S i = some e := by
  unfold entsF
  rw [List.mem_filterMap]
  constructor
  · rintro ⟨o, ho, he⟩
    obtain ⟨i, hi, rfl⟩ := List.mem_iff_getElem.1 ho
    exact ⟨i, hi, by unfold tAt; rw [List.getD_eq_getElem?_getD, List.getElem?_eq_getElem hi]; simpa using he⟩
  · rintro ⟨i, hi, he⟩
    unfold tAt at he
    rw [List.getD_eq_getElem?_getD, List.getElem?_eq_getElem hi] at he
    exact ⟨S[i], List.getElem_mem hi, by simpa using he⟩
theorem ents_len (S : Slots V) : (entsF S).length ≤ S.length := List.length_filterMap_le _ _
theorem unused (S : Slots V) (h : (entsF S).length < S.length) : ∃ i, i < S.length ∧ tAt S i = none := by
  refine Classical.byContradiction fun hc => ?_
  have : (entsF S).length = S.length := by
    unfold entsF
    have hall : ∀ o ∈ S, ∃ e, o = some e := fun o ho => by
      obtain ⟨i, hi, rfl⟩ := List.mem_iff_getElem.1 ho
      cases ho' : S[i] with
      | none => exact absurd ⟨i, hi, by unfold tAt; rw [List.getD_eq_getElem?_getD, List.getElem?_eq_getElem hi, ho']; rfl⟩ hc
      | some e => exact ⟨e, rfl⟩
    clear h hc
    induction S with
    | nil => rfl
    | cons o r ih =>
      obtain ⟨e, rfl⟩ := hall o List.mem_cons_self
      simp only [List.filterMap_cons, id_eq, List.length_cons]
      rw [ih (fun o ho => hall o (List.mem_cons_of_mem _ ho))]
  omega
end
end Go.Proofs.YtlaakhfgidjofaaGreatDoor

namespace Go.Proofs.YtlaakhfgidjofaaGreatDoor
set_option linter.unusedVariables false
set_option linter.unusedSimpArgs false
theorem i64_mask (x : Int) (k : Nat) (hk : k < 63) : bits .and .i64 x ((2 : Int) ^ k - 1) = x % 2 ^ k := by
  have hp : (2 : Nat) ^ k ≤ 2 ^ 62 := Nat.pow_le_pow_right (by decide) (by omega)
  have hpos : 0 < (2 : Nat) ^ k := Nat.pow_pos (by decide)
  have e1 : ((2 : Int) ^ k - 1) = ((2 ^ k - 1 : Nat) : Int) := by
    have : ((2 ^ k : Nat) : Int) = (2 : Int) ^ k := by simp
    omega
  have h2 : (BitVec.ofInt 64 ((2 ^ k - 1 : Nat) : Int)).toNat = 2 ^ k - 1 := by
    rw [BitVec.ofInt_natCast, BitVec.toNat_ofNat]; exact Nat.mod_eq_of_lt (by omega)
  have h1 : ((BitVec.ofInt 64 x).toNat : Int) = x % 2 ^ 64 := by
    rw [BitVec.toNat_ofInt]; omega
  rw [e1]
  show IntKind.i64.wrap ((BitVec.ofInt 64 x &&& BitVec.ofInt 64 ((2 ^ k - 1 : Nat) : Int)).toNat : Int) = _
  rw [BitVec.toNat_and, h2, Nat.and_two_pow_sub_one_eq_mod]
  have hlt : (BitVec.ofInt 64 x).toNat % 2 ^ k < 2 ^ k := Nat.mod_lt _ hpos
  rw [IntWalk.i64_in _ (by omega)]
  have : (((BitVec.ofInt 64 x).toNat % 2 ^ k : Nat) : Int) = ((BitVec.ofInt 64 x).toNat : Int) % ((2 ^ k : Nat) : Int) := by simp
  rw [this, h1]
  have hd : ((2 ^ k : Nat) : Int) ∣ 2 ^ 64 := by
    have : (2 : Nat) ^ k ∣ 2 ^ 64 := Nat.pow_dvd_pow 2 (by omega)
    have := Int.natCast_dvd_natCast.2 this
    simpa using this
  rw [Int.emod_emod_of_dvd _ hd]
  simp
def Pw (N : Nat) : Prop := ∃ k, k < 62 ∧ N = 2 ^ k
theorem mask_nat (N : Nat) (h : Pw N) (x : Nat) : bits .and .i64 (x : Int) ((N : Int) - 1) = ((x % N : Nat) : Int) := by
  obtain ⟨k, hk, rfl⟩ := h
  have := i64_mask x k (by omega)
  simpa using this
theorem mask_next (N : Nat) (h : Pw N) (a : Nat) (ha : a < N) : bits .and .i64 ((a : Int) + 1) ((N : Int) - 1) = (ad N a 1 : Nat) := by
  have := mask_nat N h (a + 1)
  rw [show ((a + 1 : Nat) : Int) = (a : Int) + 1 by omega] at this
  rw [this]
  unfold ad
  split
  · rw [Nat.mod_eq_of_lt (by omega)]
  · have : a + 1 = N := by omega
    rw [this, Nat.mod_self, Nat.sub_self]
def homeN (N id : Nat) : Nat := id * 2654435769 % 4294967296 / 128 % N
theorem homeN_lt (N id : Nat) (h : 0 < N) : homeN N id < N := Nat.mod_lt _ h
theorem mask_home (N : Nat) (h : Pw N) (id : Nat) : bits .and .i64 (((id : Int) * 2654435769 % 4294967296) / 128) ((N : Int) - 1) = (homeN N id : Nat) := by
  have := mask_nat N h (id * 2654435769 % 4294967296 / 128)
  have e : ((id * 2654435769 % 4294967296 / 128 : Nat) : Int) = ((id : Int) * 2654435769 % 4294967296) / 128 := by omega
  rw [e] at this
  exact this
theorem Pw.pos {N : Nat} (h : Pw N) : 0 < N := by obtain ⟨k, _, rfl⟩ := h; exact Nat.pow_pos (by decide)

theorem least {P : Nat → Prop} (n : Nat) (h : P n) : ∃ d, d ≤ n ∧ P d ∧ ∀ e, e < d → ¬ P e := by
  induction n using Nat.strongRecOn with
  | _ n ih =>
    by_cases hc : ∃ m, m < n ∧ P m
    · obtain ⟨m, h1, h2⟩ := hc
      obtain ⟨d, a, b, c⟩ := ih m h1 h2
      exact ⟨d, by omega, b, c⟩
    · exact ⟨n, Nat.le_refl _, h, fun e he hp => hc ⟨e, he, hp⟩⟩
section
variable {V : Type}
theorem FAt.there {hm : Nat → Nat} {S : Slots V} (h : ∀ id, hm id < S.length) (id : Nat) (hu : ∃ i, i < S.length ∧ tAt S i = none) : ∃ d, FAt hm S id d := by
  obtain ⟨i, hi, hz⟩ := hu
  obtain ⟨d, h1, h2, h3⟩ := least (P := fun d => tAt S (ad S.length (hm id) d) = none ∨ ∃ x, tAt S (ad S.length (hm id) d) = some (id, x)) (dst S.length (hm id) i) (.inl (by rw [ad_dst (h id) hi]; exact hz))
  have hl := dst_lt (h id) hi
  refine ⟨d, by omega, fun e he => ?_, h2⟩
  have h4 := h3 e he
  cases ht : tAt S (ad S.length (hm id) e) with
  | none => exact absurd (.inl ht) h4
  | some ex =>
    obtain ⟨k, x⟩ := ex
    refine ⟨k, x, rfl, fun hk => h4 (.inr ⟨x, ?_⟩)⟩
    rw [ht, hk]
theorem FAt.some_there {hm : Nat → Nat} {S : Slots V} (h : FInv hm S) {id d : Nat} (f : FAt hm S id d) (x : V) : tAt S (ad S.length (hm id) d) = some (id, x) ↔ (id, x) ∈ entsF S := by
  have hp := ad_lt (h.home id) f.lt
  constructor
  · intro he; exact (ents_mem S _).2 ⟨_, hp, he⟩
  · intro hm
    obtain ⟨i, hi, he⟩ := (ents_mem S _).1 hm
    rcases f.fin with h1 | ⟨y, h1⟩
    · exact absurd he (f.none_there h h1 i x hi)
    · have := h.one _ _ id y x hp hi h1 he
      rw [this]; exact he
theorem ents_nil (n : Nat) : entsF (List.replicate n (none : Option (Nat × V))) = [] := by
  unfold entsF
  induction n with
  | zero => rfl
  | succ n ih => rw [List.replicate_succ, List.filterMap_cons]; exact ih
theorem tAt_nil (n i : Nat) : tAt (List.replicate n (none : Option (Nat × V))) i = none := by
  unfold tAt
  rw [List.getD_eq_getElem?_getD, List.getElem?_replicate]
  split <;> rfl
theorem FInv.nil {hm : Nat → Nat} (n : Nat) (h : ∀ id, hm id < n) : FInv hm (List.replicate n (none : Option (Nat × V))) :=
  ⟨fun id => by rw [List.length_replicate]; exact h id, fun i id x _ he => (by rw [tAt_nil] at he; cases he), fun i j id x y _ _ he => (by rw [tAt_nil] at he; cases he)⟩
theorem ents_step (S : Slots V) (j : Nat) (hj : j < S.length) : entsF (S.take (j + 1)) = entsF (S.take j) ++ (tAt S j).toList := by
  unfold entsF tAt
  rw [List.take_succ_eq_append_getElem hj, List.filterMap_append, List.getD_eq_getElem?_getD, List.getElem?_eq_getElem hj]
  cases S[j] <;> rfl
end
end Go.Proofs.YtlaakhfgidjofaaGreatDoor

namespace Go.Proofs.YtlaakhfgidjofaaGreatDoor.flowOwn
set_option linter.unusedVariables false
set_option linter.unusedSimpArgs false
open Go.RowKit Go.Proofs.YtlaakhfgidjofaaGreatDoor
structure Th where
  p : Int
  b : Nat
  m : Nat
abbrev en (x : Th) : Value := .agg #[.int .i64 x.p, .int .u64 x.b, .int .u64 x.m]
def enS : Option (Nat × Th) → List Value
  | none => [.int .u32 0, .bool false, .int .i64 0, .int .u64 0, .int .u64 0]
  | some (id, x) => [.int .u32 id, .bool true, .int .i64 x.p, .int .u64 x.b, .int .u64 x.m]
theorem enS_len (o : Option (Nat × Th)) : (enS o).length = 5 := by cases o <;> rfl
structure TMem (w : World) (tb sb : Nat) (S : Slots Th) (n room : Nat) : Prop where
  top : Blk w tb [.slice (some ⟨sb, 0, none⟩) S.length S.length, .int .i64 n, .int .i64 room] 252
  cel : Blk w sb (S.flatMap enS) 254
structure TOk (S : Slots Th) (n room : Nat) : Prop where
  pw : Pw S.length
  inv : FInv (homeN S.length) S
  cnt : (entsF S).length = n
  load : 4 * n ≤ 3 * S.length
  nr : n ≤ room
  r1 : 1 ≤ room
  r2 : room ≤ 4096
  ids : ∀ e ∈ entsF S, e.1 < 4294967296
  b1 : 8 ≤ S.length
  b2 : S.length ≤ 8192
theorem TMem.kp {S' : Nat → Prop} {w w' : World} {tb sb : Nat} {S : Slots Th} {n room : Nat} (h : TMem w tb sb S n room) (K : Kp S' w w') (h1 : ¬ S' tb) (h2 : ¬ S' sb) : TMem w' tb sb S n room := ⟨h.top.kp K h1, h.cel.kp K h2⟩
theorem TMem.old {w w' : World} {tb sb : Nat} {S : Slots Th} {n room : Nat} (h : TMem w tb sb S n room) (K : Kp none' w w') : TMem w' tb sb S n room := h.kp K id id
theorem TMem.cell {w : World} {tb sb : Nat} {S : Slots Th} {n room : Nat} (h : TMem w tb sb S n room) (i k : Nat) {u : Value} (hk : k < 5) (hu : (enS (tAt S i))[k]? = some u) (hi : i < S.length) : w.cell? ⟨sb, i * 5 + k, none⟩ = some u := by
  refine h.cel.cell _ ?_
  rw [flat_get enS 5 enS_len _ _ _ hk, List.getElem?_eq_getElem hi]
  unfold tAt at hu
  rw [List.getD_eq_getElem?_getD, List.getElem?_eq_getElem hi] at hu
  simpa using hu
set_option maxHeartbeats 1000000 in
theorem fMade (w : World) (tb sb : Nat) (S : Slots Th) (n room : Nat) (h : TMem w tb sb S n room) (hN : 0 < S.length) : Calls Tryz.prog 125 #[.pointer (some ⟨tb, 0, none⟩)] w fun e w' => e = .returned (.bool true) ∧ w = w' := by
  have c := h.top.cell 0 rfl
  have hNi : (0 : Int) < S.length := by omega
  clear h
  go_enter Tryz.func125, Tryz.ntmps125
  go_wp2
  go_ret
  exact ⟨rfl, rfl⟩
set_option maxHeartbeats 1000000 in
theorem fHome (w : World) (tb sb : Nat) (S : Slots Th) (n room : Nat) (h : TMem w tb sb S n room) (hp : Pw S.length) (hb : S.length ≤ 8192) (id : Nat) (hid : id < 4294967296) : Calls Tryz.prog 150 #[.pointer (some ⟨tb, 0, none⟩), .int .u32 id] w fun e w' => e = .returned (.int .i64 (homeN S.length id)) ∧ w = w' := by
  have c := h.top.cell 0 rfl
  have hN := hp.pos
  have hm := mask_home S.length hp id
  have HM := Lib.hid hm
  clear h hm
  go_enter Tryz.func150, Tryz.ntmps150
  go_wp2
  go_ret
  exact ⟨by rw [← HM.out]; rfl, rfl⟩
set_option maxRecDepth 100000 in
set_option maxHeartbeats 2000000 in
theorem fFind (w : World) (tb sb : Nat) (S : Slots Th) (n room : Nat) (h : TMem w tb sb S n room) (hp : Pw S.length) (hb : S.length ≤ 8192) (id : Nat) (hid : id < 4294967296) (hu : ∃ i, i < S.length ∧ tAt S i = none) :
    Calls Tryz.prog 126 #[.pointer (some ⟨tb, 0, none⟩), .int .u32 id] w fun e w' => (∃ d, FAt (homeN S.length) S id d ∧ e = .returned (.int .i64 (ad S.length (homeN S.length id) d : Nat))) ∧ w = w' := by
  have c := h.top.cell 0 rfl
  have hN := hp.pos
  have HM := Lib.hid h
  have HH := Lib.hid (fHome w tb sb S n room h hp hb id hid)
  have hh := homeN_lt S.length id hN
  obtain ⟨d0, hd0, hz0⟩ : ∃ d0, d0 < S.length ∧ tAt S (ad S.length (homeN S.length id) d0) = none := by
    obtain ⟨i, hi, hz⟩ := hu
    exact ⟨dst S.length (homeN S.length id) i, dst_lt hh hi, by rw [ad_dst hh hi]; exact hz⟩
  obtain ⟨N, hNe⟩ : ∃ N, S.length = N := ⟨_, rfl⟩
  have HFA : Hid (∀ d, d < N → (∀ e, e < d → ∃ k x, tAt S (ad N (homeN N id) e) = some (k, x) ∧ k ≠ id) → (tAt S (ad N (homeN N id) d) = none ∨ ∃ x, tAt S (ad N (homeN N id) d) = some (id, x)) → FAt (homeN N) S id d) := by
    subst hNe; exact fun d h1 h2 h3 => ⟨h1, h2, h3⟩
  have HCE : Hid (∀ i k u, k < 5 → (enS (tAt S i))[k]? = some u → i < N → w.cell? ⟨sb, i * 5 + k, none⟩ = some u) := by
    subst hNe; exact fun i k u h1 h2 h3 => HM.out.cell i k h1 h2 h3
  rw [hNe] at c hN hh hd0 hz0 hb hp HH ⊢
  have HNX := Lib.hid (fun a ha => mask_next N hp a ha)
  clear h hu hNe HM
  generalize homeN N id = hm at *
  have hz := Lib.hid hz0
  clear hz0
  go_enter Tryz.func126, Tryz.ntmps126
  go_wp2_with fail
  refine HH.out.mono ?_
  rintro e w1 ⟨rfl, rfl⟩
  go_wp2_with fail
  go_loop [5] (fun i0 => ∃ d : Nat, i0 = .int .i64 (ad N hm d : Nat) ∧ d ≤ d0 ∧ Hid (∀ e, e < d → ∃ k x, tAt S (ad N hm e) = some (k, x) ∧ k ≠ id)) (fun i0 => N - dst N hm (intOf i0).toNat)
  case atStart => exact ⟨0, by rw [ad_zero hh], by omega, fun e he => by omega⟩
  case round =>
    obtain ⟨d, rfl, hd, hr⟩ := hrel
    have hpl := ad_lt hh (show d < N by omega)
    have hdd := dst_ad hh (show d < N by omega)
    have hfa := HFA.out d (by omega) hr.out
    obtain ⟨q, hq⟩ : ∃ q, ad N hm d = q := ⟨_, rfl⟩
    have had : d + 1 < N → ad N q 1 = ad N hm (d + 1) := fun h => by rw [← hq]; exact ad_ad hh h
    rw [hq] at hpl hdd
    have hql : (q : Int) < N := by omega
    cases ht : tAt S q with
    | none =>
      have c1 := HCE.out q 1 (.bool false) (by omega) (by rw [ht]; rfl) hpl
      have HF := Lib.hid (hfa (.inl (by rw [hq]; exact ht)))
      clear hfa ht had hdd hr
      rw [hq]
      go_wp2_with fail
      go_ret
      exact ⟨⟨d, HF.out, by rw [hq]; rfl⟩, rfl⟩
    | some ex =>
      obtain ⟨k, x⟩ := ex
      have c0 := HCE.out q 0 (.int .u32 k) (by omega) (by rw [ht]; rfl) hpl
      have c1 := HCE.out q 1 (.bool true) (by omega) (by rw [ht]; rfl) hpl
      simp only [Nat.add_zero] at c0
      by_cases hk : k = id
      · subst hk
        have HF := Lib.hid (hfa (.inr ⟨x, by rw [hq]; exact ht⟩))
        clear hfa ht had hdd hr
        rw [hq]
        go_wp2_with fail
        go_ret
        exact ⟨⟨d, HF.out, by rw [hq]; rfl⟩, rfl⟩
      · have hkb : ((k : Int) != (id : Int)) = true := by rw [bne_iff_ne]; omega
        have hne : d ≠ d0 := fun e => by have := hz.out; rw [← e, hq, ht] at this; cases this
        have hmk := HNX.out q hpl
        have HR : Hid (∀ e, e < d + 1 → ∃ k x, tAt S (ad N hm e) = some (k, x) ∧ k ≠ id) := fun e he => by
          by_cases hed : e = d
          · subst hed; exact ⟨k, x, by rw [hq]; exact ht, hk⟩
          · exact hr.out e (by omega)
        have hda := had (by omega)
        have hd1 := dst_ad hh (show d + 1 < N by omega)
        clear hfa ht had hr hk
        rw [hda] at hmk
        rw [hq]
        obtain ⟨q', hq'⟩ : ∃ q', ad N hm (d + 1) = q' := ⟨_, rfl⟩
        rw [hq'] at hmk hd1
        have HQ' := Lib.hid hq'
        clear hq' hda
        go_wp2_with fail
        go_round
        case rel => exact ⟨d + 1, by rw [HQ'.out], by omega, HR.out⟩
        case measure => simp only [intOf, Int.toNat_natCast, hd1, hdd]; omega

theorem TOk.free {S : Slots Th} {n room : Nat} (h : TOk S n room) : ∃ i, i < S.length ∧ tAt S i = none := unused S (by have := h.cnt; have := h.load; have := h.b1; omega)
theorem fFindAt (S : Slots Th) (id d : Nat) (hp : Pw S.length) (hb : S.length ≤ 8192) (hid : id < 4294967296) (hu : ∃ i, i < S.length ∧ tAt S i = none) (f : FAt (homeN S.length) S id d) (w : World) (tb sb : Nat) (n room : Nat) (h : TMem w tb sb S n room) :
    Calls Tryz.prog 126 #[.pointer (some ⟨tb, 0, none⟩), .int .u32 id] w fun e w' => e = .returned (.int .i64 (ad S.length (homeN S.length id) d : Nat)) ∧ Kp none' w w' :=
  (fFind w tb sb S n room h hp hb id hid hu).mono fun e w' ⟨⟨d', f', he⟩, hw⟩ => by
    subst hw
    rw [f.unique f']
    exact ⟨he, Kp.refl _ _⟩
end Go.Proofs.YtlaakhfgidjofaaGreatDoor.flowOwn
