/- A backend made (layer 26). -/
import Derived.Test.YtjhghagmnkjpkaaGreatMShaperNobodyF16
import Derived.Test.YtjhghagmnkjpkaaGreatMShaperNobodyF0
import Derived.Laws.Bits128
namespace Go.Proofs.YtjhghagmnkjpkaaGreat
set_option linter.unusedVariables false
set_option linter.unusedSimpArgs false
open Go Go.RowKit Go.Shelf

def hpV (b : Nat) : Value := .iface 102 (.agg #[.pointer (some ⟨b, 0, none⟩)])
def quV (b : Nat) : Value := .iface 69 (.agg #[.pointer (some ⟨b, 0, none⟩)])
set_option maxRecDepth 100000 in
set_option maxHeartbeats 1000000 in
theorem madeH (c : CfR) (v : Value) (w : World) (hb : c.back = 1) (h1 : 1 ≤ c.packets) (h2 : c.packets ≤ 4096) :
    Calls Tryz.prog 16 #[.agg (enC c v).toArray] w fun e w' => ∃ b F, e = .returned (hpV b) ∧ Hp w' F b c.packets.toNat 0 [] ∧ (∀ b, F b → w.heap.size ≤ b) ∧ Kp none' w w' := by
  obtain ⟨rk, bk, lv, qu, pk, bt, sh, mt, rt, bu, fl⟩ := c
  simp only at hb h1 h2
  subst hb
  obtain ⟨p, rfl⟩ : ∃ p : Nat, pk = p := ⟨pk.toNat, by omega⟩
  have HN := Lib.hid (fun W => hpNew p (by omega) (by omega) W)
  have HB0 := Lib.hid (Blk.new w [.int .i64 rk, .int .i64 1, .int .i64 lv, .int .i64 qu, .int .i64 p, .int .u64 bt, .int .i64 sh, .int .u64 mt, .int .u64 rt, .int .u64 bu, v] 48)
  have HK0 := Lib.hid ((Kp.refl none' w).alloc (.cells #[.int .i64 rk, .int .i64 1, .int .i64 lv, .int .i64 qu, .int .i64 p, .int .u64 bt, .int .i64 sh, .int .u64 mt, .int .u64 rt, .int .u64 bu, v] 48))
  refine calls_post ?_
  intro PP HP
  simp only [enC] at *
  go_enter Tryz.func16, Tryz.ntmps16
  go_wp2_with fail
  refine (HN.out _).mono ?_
  rintro e w2 ⟨b, F, rfl, hp, hF, hk⟩
  have HH := Lib.hid hp
  have HF := Lib.hid hF
  have HK := Lib.hid (HK0.out.trans hk)
  clear hp hF hk
  go_wp2_with fail
  exact HP.out _ _ ⟨b, F, rfl, by simpa using HH.out, fun x hx => by have := HF.out x hx; have := HK0.out.size; omega, HK.out⟩
set_option maxRecDepth 100000 in
set_option maxHeartbeats 1000000 in
theorem madeQ (c : CfR) (v : Value) (w : World) (hb : c.back = 3) (h1 : 1 ≤ c.packets) (h2 : c.packets ≤ 4096) (h3 : 1 ≤ c.queues) (h4 : c.queues ≤ 32) :
    Calls Tryz.prog 16 #[.agg (enC c v).toArray] w fun e w' => ∃ b F, e = .returned (quV b) ∧ Qu w' F b c.packets.toNat (List.replicate c.queues.toNat 0) (List.replicate c.queues.toNat []) ∧ (∀ b, F b → w.heap.size ≤ b) ∧ Kp none' w w' := by
  obtain ⟨rk, bk, lv, qu, pk, bt, sh, mt, rt, bu, fl⟩ := c
  simp only at hb h1 h2 h3 h4
  subst hb
  obtain ⟨p, rfl⟩ : ∃ p : Nat, pk = p := ⟨pk.toNat, by omega⟩
  obtain ⟨n, rfl⟩ : ∃ n : Nat, qu = n := ⟨qu.toNat, by omega⟩
  have HN := Lib.hid (fun W => qNew p n (by omega) (by omega) (by omega) (by omega) W)
  have HB0 := Lib.hid (Blk.new w [.int .i64 rk, .int .i64 3, .int .i64 lv, .int .i64 n, .int .i64 p, .int .u64 bt, .int .i64 sh, .int .u64 mt, .int .u64 rt, .int .u64 bu, v] 48)
  have HK0 := Lib.hid ((Kp.refl none' w).alloc (.cells #[.int .i64 rk, .int .i64 3, .int .i64 lv, .int .i64 n, .int .i64 p, .int .u64 bt, .int .i64 sh, .int .u64 mt, .int .u64 rt, .int .u64 bu, v] 48))
  refine calls_post ?_
  intro PP HP
  simp only [enC] at *
  go_enter Tryz.func16, Tryz.ntmps16
  go_wp2_with fail
  refine (HN.out _).mono ?_
  rintro e w2 ⟨b, F, rfl, hp, hF, hk⟩
  have HH := Lib.hid hp
  have HF := Lib.hid hF
  have HK := Lib.hid (HK0.out.trans hk)
  clear hp hF hk
  go_wp2_with fail
  exact HP.out _ _ ⟨b, F, rfl, by simpa using HH.out, fun x hx => by have := HF.out x hx; have := HK0.out.size; omega, HK.out⟩
end Go.Proofs.YtjhghagmnkjpkaaGreat

namespace Go.Proofs.YtjhghagmnkjpkaaGreat
set_option linter.unusedVariables false
set_option linter.unusedSimpArgs false

/-- A place d behind another one, in a ring. -/
def ad (N a d : Nat) : Nat := if a + d < N then a + d else a + d - N
/-- How far behind. -/
def dst (N a b : Nat) : Nat := if a ≤ b then b - a else b + N - a
theorem ad_lt {N a d : Nat} (ha : a < N) (hd : d < N) : ad N a d < N := by unfold ad; split <;> omega
theorem ad_zero {N a : Nat} (ha : a < N) : ad N a 0 = a := by unfold ad; split <;> omega
theorem dst_lt {N a b : Nat} (ha : a < N) (hb : b < N) : dst N a b < N := by unfold dst; split <;> omega
theorem ad_dst {N a b : Nat} (ha : a < N) (hb : b < N) : ad N a (dst N a b) = b := by unfold ad dst; split <;> split <;> omega
theorem dst_ad {N a d : Nat} (ha : a < N) (hd : d < N) : dst N a (ad N a d) = d := by unfold ad dst; split <;> split <;> omega
theorem ad_inj {N a d e : Nat} (ha : a < N) (hd : d < N) (he : e < N) (h : ad N a d = ad N a e) : d = e := by
  have := congrArg (dst N a) h
  rwa [dst_ad ha hd, dst_ad ha he] at this
theorem ad_ad {N a d e : Nat} (ha : a < N) (h : d + e < N) : ad N (ad N a d) e = ad N a (d + e) := by unfold ad; split <;> split <;> split <;> omega
/-- A place behind the own one, of which another one on the way is known. -/
theorem ad_from {N a d e : Nat} (ha : a < N) (hde : d ≤ e) (he : e < N) : ad N (ad N a d) (e - d) = ad N a e := by rw [ad_ad ha (by omega), show d + (e - d) = e by omega]

section
variable {V : Type}
abbrev Slots (V : Type) := List (Option (Nat × V))
def tAt (S : Slots V) (i : Nat) : Option (Nat × V) := S.getD i none
theorem tAt_set (S : Slots V) (p i : Nat) (e : Option (Nat × V)) (hp : p < S.length) : tAt (S.set p e) i = if i = p then e else tAt S i := by
  unfold tAt
  by_cases h : i = p
  · subst h; rw [if_pos rfl, List.getD_eq_getElem?_getD, List.getElem?_set_self hp]; rfl
  · rw [if_neg h, List.getD_eq_getElem?_getD, List.getElem?_set_ne (fun x => h x.symm), List.getD_eq_getElem?_getD]

/-- No unused place lies between a number's own one and its place; none lies twice. -/
structure FInv (hm : Nat → Nat) (S : Slots V) : Prop where
  home : ∀ id, hm id < S.length
  path : ∀ i id x, i < S.length → tAt S i = some (id, x) → ∀ d, d < dst S.length (hm id) i → tAt S (ad S.length (hm id) d) ≠ none
  one : ∀ i j id x y, i < S.length → j < S.length → tAt S i = some (id, x) → tAt S j = some (id, y) → i = j
/-- Where a number is found: its place, or the unused one in which it would lie. -/
structure FAt (hm : Nat → Nat) (S : Slots V) (id d : Nat) : Prop where
  lt : d < S.length
  way : ∀ e, e < d → ∃ k x, tAt S (ad S.length (hm id) e) = some (k, x) ∧ k ≠ id
  fin : tAt S (ad S.length (hm id) d) = none ∨ ∃ x, tAt S (ad S.length (hm id) d) = some (id, x)
theorem FAt.none_there {hm : Nat → Nat} {S : Slots V} (h : FInv hm S) {id d : Nat} (f : FAt hm S id d) (hn : tAt S (ad S.length (hm id) d) = none) (i : Nat) (x : V) (hi : i < S.length) : tAt S i ≠ some (id, x) := by
  intro he
  have hp := h.path i id x hi he
  have hd := ad_dst (h.home id) hi
  have hl := dst_lt (h.home id) hi
  rcases Nat.lt_trichotomy d (dst S.length (hm id) i) with h1 | h1 | h1
  · exact hp d h1 hn
  · rw [h1, hd, he] at hn; cases hn
  · obtain ⟨k, y, h2, h3⟩ := f.way _ h1
    rw [hd, he] at h2
    simp only [Option.some.injEq, Prod.mk.injEq] at h2
    exact h3 h2.1.symm
theorem FAt.unique {hm : Nat → Nat} {S : Slots V} {id d e : Nat} (f : FAt hm S id d) (g : FAt hm S id e) : d = e := by
  rcases Nat.lt_trichotomy d e with h | h | h
  · obtain ⟨k, x, h1, h2⟩ := g.way d h
    rcases f.fin with h3 | ⟨y, h3⟩
    · rw [h3] at h1; cases h1
    · rw [h3] at h1; simp only [Option.some.injEq, Prod.mk.injEq] at h1; exact absurd h1.1.symm h2
  · exact h
  · obtain ⟨k, x, h1, h2⟩ := f.way e h
    rcases g.fin with h3 | ⟨y, h3⟩
    · rw [h3] at h1; cases h1
    · rw [h3] at h1; simp only [Option.some.injEq, Prod.mk.injEq] at h1; exact absurd h1.1.symm h2
theorem FInv.put {hm : Nat → Nat} {S : Slots V} (h : FInv hm S) {id d : Nat} (f : FAt hm S id d) (hn : tAt S (ad S.length (hm id) d) = none) (x : V) : FInv hm (S.set (ad S.length (hm id) d) (some (id, x))) := by
  have hp := ad_lt (h.home id) f.lt
  have hno := f.none_there h hn
  generalize hpp : ad S.length (hm id) d = p at *
  constructor
  · intro k; rw [List.length_set]; exact h.home k
  · intro i k y hi he e hlt
    rw [List.length_set] at hi hlt ⊢
    rw [tAt_set S p _ _ hp]
    split
    · simp
    · rename_i hne
      rw [tAt_set S p _ _ hp] at he
      split at he
      · rename_i hip
        simp only [Option.some.injEq, Prod.mk.injEq] at he
        obtain ⟨rfl, rfl⟩ := he
        subst hip
        rw [← hpp, dst_ad (h.home id) f.lt] at hlt
        obtain ⟨k, y, h2, _⟩ := f.way e hlt
        rw [h2]; simp
      · exact h.path i k y hi he e hlt
  · intro i j k y z hi hj hei hej
    rw [List.length_set] at hi hj
    rw [tAt_set S p _ _ hp] at hei hej
    split at hei
    · rename_i h1
      split at hej
      · rename_i h2; omega
      · simp only [Option.some.injEq, Prod.mk.injEq] at hei
        obtain ⟨rfl, rfl⟩ := hei
        exact absurd hej (hno j z hj)
    · split at hej
      · simp only [Option.some.injEq, Prod.mk.injEq] at hej
        obtain ⟨rfl, rfl⟩ := hej
        exact absurd hei (hno i y hi)
      · exact h.one i j k y z hi hj hei hej
/-- A thing turned under its number. -/
theorem FInv.turn {hm : Nat → Nat} {S : Slots V} (h : FInv hm S) {p id : Nat} {x : V} (hp : p < S.length) (he : tAt S p = some (id, x)) (y : V) : FInv hm (S.set p (some (id, y))) := by
  constructor
  · intro k; rw [List.length_set]; exact h.home k
  · intro i k z hi hek e hlt
    rw [List.length_set] at hi hlt ⊢
    rw [tAt_set S p _ _ hp]
    split
    · simp
    · rw [tAt_set S p _ _ hp] at hek
      split at hek
      · rename_i hip
        simp only [Option.some.injEq, Prod.mk.injEq] at hek
        obtain ⟨rfl, rfl⟩ := hek
        subst hip
        exact h.path i id x hi he e hlt
      · exact h.path i k z hi hek e hlt
  · intro i j k z u hi hj hei hej
    rw [List.length_set] at hi hj
    rw [tAt_set S p _ _ hp] at hei hej
    have key : ∀ (i : Nat) (z : V), (if i = p then some (id, y) else tAt S i) = some (k, z) → ∃ z', tAt S i = some (k, z') := by
      intro i z hz
      split at hz
      · rename_i hip
        simp only [Option.some.injEq, Prod.mk.injEq] at hz
        obtain ⟨rfl, rfl⟩ := hz
        subst hip; exact ⟨x, he⟩
      · exact ⟨z, hz⟩
    obtain ⟨z', h1⟩ := key i z hei
    obtain ⟨u', h2⟩ := key j u hej
    exact h.one i j k z' u' hi hj h1 h2

/-- While a hole is closed: h: the hole; k: how far behind it one is; m: how far behind it the first unused place is. -/
structure DInv (hm : Nat → Nat) (C : Slots V) (h k m : Nat) : Prop where
  hh : h < C.length
  hk : 1 ≤ k
  km : k ≤ m
  mN : m < C.length
  hole : tAt C h = none
  used : ∀ r, 1 ≤ r → r < m → tAt C (ad C.length h r) ≠ none
  fin : tAt C (ad C.length h m) = none
  home : ∀ id, hm id < C.length
  path : ∀ i id x, i < C.length → tAt C i = some (id, x) → ∀ d, d < dst C.length (hm id) i → tAt C (ad C.length (hm id) d) ≠ none ∨ (ad C.length (hm id) d = h ∧ ∃ r, k ≤ r ∧ r < m ∧ i = ad C.length h r)
  one : ∀ i j id x y, i < C.length → j < C.length → tAt C i = some (id, x) → tAt C j = some (id, y) → i = j
theorem DInv.start {hm : Nat → Nat} {S : Slots V} (hS : FInv hm S) {h m id : Nat} {x : V} (hh : h < S.length) (he : tAt S h = some (id, x)) (hm1 : 1 ≤ m) (hmN : m < S.length) (hu : ∀ r, 1 ≤ r → r < m → tAt S (ad S.length h r) ≠ none) (hf : tAt S (ad S.length h m) = none) : DInv hm (S.set h none) h 1 m := by
  have hne : ∀ r, 1 ≤ r → r < S.length → ad S.length h r ≠ h := fun r h1 h2 e => by
    have := ad_inj (e := 0) hh h2 (by omega) (e.trans (ad_zero hh).symm)
    omega
  refine ⟨by rw [List.length_set]; exact hh, Nat.le_refl _, hm1, by rw [List.length_set]; exact hmN, by rw [tAt_set S h _ _ hh, if_pos rfl], ?_, ?_, by intro k; rw [List.length_set]; exact hS.home k, ?_, ?_⟩
  · intro r h1 h2
    rw [List.length_set, tAt_set S h _ _ hh, if_neg (hne r h1 (by omega))]
    exact hu r h1 h2
  · rw [List.length_set, tAt_set S h _ _ hh, if_neg (hne m hm1 hmN)]; exact hf
  · intro i k y hi hek d hd
    rw [List.length_set] at hi hd ⊢
    rw [tAt_set S h _ _ hh] at hek
    split at hek
    · cases hek
    · rename_i hih
      have hpath := hS.path i k y hi hek
      have hlt := dst_lt (hS.home k) hi
      have had := ad_dst (hS.home k) hi
      rw [tAt_set S h _ _ hh]
      by_cases hx : ad S.length (hm k) d = h
      · right
        refine ⟨hx, dst S.length (hm k) i - d, by omega, ?_, ?_⟩
        · refine Classical.byContradiction fun hc => ?_
          by_cases hq : d + m < dst S.length (hm k) i
          · have := hpath (d + m) hq
            rw [← ad_ad (hS.home k) (by omega), hx] at this
            exact this hf
          · have : d + m = dst S.length (hm k) i := by omega
            rw [← this, ← ad_ad (hS.home k) (by omega), hx] at had
            rw [had] at hf
            rw [hf] at hek; cases hek
        · have := ad_from (hS.home k) (Nat.le_of_lt hd) hlt
          rw [hx] at this
          rw [this, had]
      · left
        rw [if_neg hx]; exact hpath d hd
  · intro i j k y z hi hj hei hej
    rw [List.length_set] at hi hj
    rw [tAt_set S h _ _ hh] at hei hej
    split at hei
    · cases hei
    · split at hej
      · cases hej
      · exact hS.one i j k y z hi hj hei hej
/-- What lies there stays. -/
theorem DInv.stay {hm : Nat → Nat} {C : Slots V} {h k m : Nat} (D : DInv hm C h k m) (hkm : k < m) {id : Nat} {x : V} (he : tAt C (ad C.length h k) = some (id, x)) (hlt : dst C.length (hm id) (ad C.length h k) < k) : DInv hm C h (k + 1) m := by
  have hkN : k < C.length := Nat.lt_trans hkm D.mN
  refine { D with hk := by omega, km := hkm, path := ?_ }
  intro i j y hi hej d hd
  rcases D.path i j y hi hej d hd with h1 | ⟨h1, r, h2, h3, h4⟩
  · exact .inl h1
  · by_cases hr : r = k
    · subst hr
      subst h4
      rw [he] at hej
      simp only [Option.some.injEq, Prod.mk.injEq] at hej
      obtain ⟨rfl, rfl⟩ := hej
      exfalso
      have e1 := ad_from (D.home id) (Nat.le_of_lt hd) (dst_lt (D.home id) hi)
      rw [h1, ad_dst (D.home id) hi] at e1
      have := ad_inj D.hh (by omega) hkN e1
      omega
    · exact .inr ⟨h1, r, by omega, h3, h4⟩
/-- What lies there moves into the hole. -/
theorem DInv.move {hm : Nat → Nat} {C : Slots V} {h k m : Nat} (D : DInv hm C h k m) (hkm : k < m) {id : Nat} {x : V} (he : tAt C (ad C.length h k) = some (id, x)) (hge : k ≤ dst C.length (hm id) (ad C.length h k)) :
    DInv hm ((C.set h (some (id, x))).set (ad C.length h k) none) (ad C.length h k) 1 (m - k) := by
  have hkN : k < C.length := Nat.lt_trans hkm D.mN
  have hmN := D.mN
  have hk1 := D.hk
  have hne : ∀ r, 1 ≤ r → r < C.length → ad C.length h r ≠ h := fun r h1 h2 e => by
    have := ad_inj (e := 0) D.hh h2 (by omega) (e.trans (ad_zero D.hh).symm)
    omega
  obtain ⟨a, ha⟩ : ∃ a, ad C.length h k = a := ⟨_, rfl⟩
  have haN : a < C.length := by rw [← ha]; exact ad_lt D.hh hkN
  have hah : a ≠ h := by rw [← ha]; exact hne k D.hk hkN
  rw [ha] at he hge ⊢
  have hlen : ((C.set h (some (id, x))).set a none).length = C.length := by rw [List.length_set, List.length_set]
  have hT : ∀ i, tAt ((C.set h (some (id, x))).set a none) i = if i = a then none else if i = h then some (id, x) else tAt C i := by
    intro i
    rw [tAt_set _ a _ _ (by rw [List.length_set]; exact haN), tAt_set C h _ _ D.hh]
  have hadr : ∀ r, k + r < C.length → ad C.length a r = ad C.length h (k + r) := fun r hr => by rw [← ha]; exact ad_ad D.hh hr
  refine ⟨by rw [hlen]; exact haN, Nat.le_refl _, by omega, by rw [hlen]; omega, by rw [hT, if_pos rfl], ?_, ?_, by intro j; rw [hlen]; exact D.home j, ?_, ?_⟩
  · intro r h1 h2
    have e1 := hadr r (by omega)
    rw [hlen, hT, if_neg, if_neg, e1]
    · exact D.used (k + r) (by omega) (by omega)
    · rw [e1]; exact hne (k + r) (by omega) (by omega)
    · intro e
      rw [e1, ← ha] at e
      have := ad_inj D.hh (by omega) hkN e
      omega
  · have e1 := hadr (m - k) (by omega)
    rw [show k + (m - k) = m by omega] at e1
    rw [hlen, hT, e1, if_neg, if_neg]
    · exact D.fin
    · exact hne m (by omega) hmN
    · intro e
      rw [← ha] at e
      have := ad_inj D.hh hmN hkN e
      omega
  · intro i j y hi hej d hd
    rw [hlen] at hi hd ⊢
    rw [hT] at hej ⊢
    by_cases hia : i = a
    · rw [if_pos hia] at hej; cases hej
    rw [if_neg hia] at hej
    by_cases hih : i = h
    · -- the thing that has moved
      rw [if_pos hih] at hej
      simp only [Option.some.injEq, Prod.mk.injEq] at hej
      obtain ⟨rfl, rfl⟩ := hej
      subst hih
      left
      have hDa := dst_lt (D.home id) haN
      have hDh := dst_lt (D.home id) D.hh
      have hdd : dst C.length (hm id) i + k = dst C.length (hm id) a := by
        have e1 : ad C.length (hm id) (dst C.length (hm id) a - k) = i := by
          have e2 := ad_ad (e := k) (D.home id) (show dst C.length (hm id) a - k + k < C.length by omega)
          rw [show dst C.length (hm id) a - k + k = dst C.length (hm id) a by omega, ad_dst (D.home id) haN] at e2
          have e3 := ad_lt (D.home id) (show dst C.length (hm id) a - k < C.length by omega)
          have e4 : ad C.length (ad C.length (hm id) (dst C.length (hm id) a - k)) k = ad C.length i k := by rw [e2, ha]
          revert e4
          generalize ad C.length (hm id) (dst C.length (hm id) a - k) = q at e3 ⊢
          unfold ad
          split <;> split <;> omega
        have := dst_ad (D.home id) (show dst C.length (hm id) a - k < C.length by omega)
        rw [e1] at this
        omega
      have hne2 : ad C.length (hm id) d ≠ a := by
        intro e
        have := ad_inj (D.home id) (by omega) hDa (e.trans (ad_dst (D.home id) haN).symm)
        omega
      have hne3 : ad C.length (hm id) d ≠ i := by
        intro e
        have := ad_inj (D.home id) (by omega) hDh (e.trans (ad_dst (D.home id) D.hh).symm)
        omega
      rw [if_neg hne2, if_neg hne3]
      rcases D.path a id x haN he d (by omega) with h1 | ⟨h1, _⟩
      · exact h1
      · exact absurd h1 hne3
    rw [if_neg hih] at hej
    have hpath := D.path i j y hi hej
    have hlt := dst_lt (D.home j) hi
    have had := ad_dst (D.home j) hi
    by_cases hx : ad C.length (hm j) d = a
    · right
      refine ⟨hx, dst C.length (hm j) i - d, by omega, ?_, ?_⟩
      · refine Classical.byContradiction fun hc => ?_
        have hq2 : ad C.length a (m - k) = ad C.length h m := by rw [hadr (m - k) (by omega), show k + (m - k) = m by omega]
        have hfin := D.fin
        by_cases hq : d + (m - k) < dst C.length (hm j) i
        · rcases hpath (d + (m - k)) hq with h1 | ⟨h1, _⟩
          · rw [← ad_ad (D.home j) (by omega), hx, hq2] at h1
            exact h1 hfin
          · rw [← ad_ad (D.home j) (by omega), hx, hq2] at h1
            exact hne m (by omega) hmN h1
        · have : d + (m - k) = dst C.length (hm j) i := by omega
          rw [← this, ← ad_ad (D.home j) (by omega), hx, hq2] at had
          rw [had] at hfin
          rw [hfin] at hej; cases hej
      · have := ad_from (D.home j) (Nat.le_of_lt hd) hlt
        rw [hx] at this
        rw [this, had]
    · left
      rw [if_neg hx]
      by_cases hy : ad C.length (hm j) d = h
      · rw [if_pos hy]; simp
      · rw [if_neg hy]
        rcases hpath d hd with h1 | ⟨h1, _⟩
        · exact h1
        · exact absurd h1 hy
  · intro i j n y z hi hj hei hej
    rw [hlen] at hi hj
    rw [hT] at hei hej
    have key : ∀ i y, i < C.length → (if i = a then none else if i = h then some (id, x) else tAt C i) = some (n, y) → ∃ i', i' < C.length ∧ tAt C i' = some (n, y) ∧ (i' = i ∧ i ≠ h ∧ i ≠ a ∨ i' = a ∧ i = h) := by
      intro i y hi hz
      split at hz
      · cases hz
      · rename_i q1
        split at hz
        · rename_i q2
          simp only [Option.some.injEq, Prod.mk.injEq] at hz
          obtain ⟨rfl, rfl⟩ := hz
          exact ⟨a, haN, he, .inr ⟨rfl, q2⟩⟩
        · rename_i q2
          exact ⟨i, hi, hz, .inl ⟨rfl, q2, q1⟩⟩
    obtain ⟨i', a1, a2, a3⟩ := key i y hi hei
    obtain ⟨j', b1, b2, b3⟩ := key j z hj hej
    have := D.one i' j' n y z a1 b1 a2 b2
    rcases a3 with ⟨_, _, _⟩ | ⟨_, _⟩ <;> rcases b3 with ⟨_, _, _⟩ | ⟨_, _⟩ <;> omega
/-- Where the next place is not in use the hole stays a hole. -/
theorem DInv.done {hm : Nat → Nat} {C : Slots V} {h m : Nat} (D : DInv hm C h m m) : FInv hm C :=
  ⟨D.home, fun i id x hi he d hd => by
    rcases D.path i id x hi he d hd with h1 | ⟨_, r, h2, h3, _⟩
    · exact h1
    · omega, D.one⟩

/-- What lies in a table. -/
def entsF (S : Slots V) : List (Nat × V) := S.filterMap id
theorem ents_split (S : Slots V) (p : Nat) (hp : p < S.length) (e : Option (Nat × V)) : entsF (S.set p e) = (S.take p).filterMap id ++ e.toList ++ (S.drop (p + 1)).filterMap id := by
  unfold entsF
  rw [List.set_eq_take_append_cons_drop, if_pos hp, List.filterMap_append]
  cases e with
  | none => simp
  | some e => simp
theorem ents_self (S : Slots V) (p : Nat) (hp : p < S.length) : entsF S = (S.take p).filterMap id ++ (tAt S p).toList ++ (S.drop (p + 1)).filterMap id := by
  have h := ents_split S p hp S[p]
  rw [List.set_getElem_self] at h
  rw [h]
  unfold tAt
  rw [List.getD_eq_getElem?_getD, List.getElem?_eq_getElem hp]; rfl
theorem ents_put (S : Slots V) (p : Nat) (hp : p < S.length) (hn : tAt S p = none) (e : Nat × V) : (entsF (S.set p (some e))).Perm (e :: entsF S) := by
  rw [ents_split S p hp, ents_self S p hp, hn]
  simp only [Option.toList_some, Option.toList_none, List.append_nil, List.append_assoc, List.singleton_append]
  exact List.perm_middle
theorem ents_take (S : Slots V) (p : Nat) (hp : p < S.length) {e : Nat × V} (he : tAt S p = some e) : (entsF S).Perm (e :: entsF (S.set p none)) := by
  rw [ents_split S p hp, ents_self S p hp, he]
  simp only [Option.toList_some, Option.toList_none, List.append_nil, List.append_assoc, List.singleton_append]
  exact List.perm_middle
theorem ents_move (C : Slots V) (h a : Nat) (hh : h < C.length) (ha : a < C.length) (hne : a ≠ h) (hn : tAt C h = none) {e : Nat × V} (he : tAt C a = some e) : (entsF ((C.set h (some e)).set a none)).Perm (entsF C) := by
  have h1 := ents_put C h hh hn e
  have h2 := ents_take (C.set h (some e)) a (by rw [List.length_set]; exact ha) (e := e) (by rw [tAt_set C h _ _ hh, if_neg hne]; exact he)
  exact (List.perm_cons e).1 (h2.symm.trans h1)
theorem ents_mem (S : Slots V) (e : Nat × V) : e ∈ entsF S ↔ ∃ i, i < S.length ∧ tAt S i = some e := by
  unfold entsF
  rw [List.mem_filterMap]
  constructor
  · rintro ⟨o, ho, he⟩
    obtain ⟨i, hi, rfl⟩ := List.mem_iff_getElem.1 ho
    exact ⟨i, hi, by unfold tAt; rw [List.getD_eq_getElem?_getD, List.getElem?_eq_getElem hi]; simpa using he⟩
  · rintro ⟨i, hi, he⟩
    unfold tAt at he
    rw [List.getD_eq_getElem?_getD, List.getElem?_eq_getElem hi] at he
    exact ⟨S[i], List.getElem_mem hi, by simpa using he⟩
theorem ents_len (S : Slots V) : (entsF S).length ≤ S.length := List.length_filterMap_le _ _
/-- There is an unused place. -/
theorem unused (S : Slots V) (h : (entsF S).length < S.length) : ∃ i, i < S.length ∧ tAt S i = none := by
  refine Classical.byContradiction fun hc => ?_
  have : (entsF S).length = S.length := by
    unfold entsF
    have hall : ∀ o ∈ S, ∃ e, o = some e := fun o ho => by
      obtain ⟨i, hi, rfl⟩ := List.mem_iff_getElem.1 ho
      cases ho' : S[i] with
      | none => exact absurd ⟨i, hi, by unfold tAt; rw [List.getD_eq_getElem?_getD, List.getElem?_eq_getElem hi, ho']; rfl⟩ hc
      | some e => exact ⟨e, rfl⟩
    clear h hc
    induction S with
    | nil => rfl
    | cons o r ih =>
      obtain ⟨e, rfl⟩ := hall o List.mem_cons_self
      simp only [List.filterMap_cons, id_eq, List.length_cons]
      rw [ih (fun o ho => hall o (List.mem_cons_of_mem _ ho))]
  omega
end
end Go.Proofs.YtjhghagmnkjpkaaGreat

namespace Go.Proofs.YtjhghagmnkjpkaaGreat
set_option linter.unusedVariables false
set_option linter.unusedSimpArgs false

theorem i64_mask (x : Int) (k : Nat) (hk : k < 63) : bits .and .i64 x ((2 : Int) ^ k - 1) = x % 2 ^ k := by
  have hp : (2 : Nat) ^ k ≤ 2 ^ 62 := Nat.pow_le_pow_right (by decide) (by omega)
  have hpos : 0 < (2 : Nat) ^ k := Nat.pow_pos (by decide)
  have e1 : ((2 : Int) ^ k - 1) = ((2 ^ k - 1 : Nat) : Int) := by
    have : ((2 ^ k : Nat) : Int) = (2 : Int) ^ k := by simp
    omega
  have h2 : (BitVec.ofInt 64 ((2 ^ k - 1 : Nat) : Int)).toNat = 2 ^ k - 1 := by
    rw [BitVec.ofInt_natCast, BitVec.toNat_ofNat]; exact Nat.mod_eq_of_lt (by omega)
  have h1 : ((BitVec.ofInt 64 x).toNat : Int) = x % 2 ^ 64 := by
    rw [BitVec.toNat_ofInt]; omega
  rw [e1]
  show IntKind.i64.wrap ((BitVec.ofInt 64 x &&& BitVec.ofInt 64 ((2 ^ k - 1 : Nat) : Int)).toNat : Int) = _
  rw [BitVec.toNat_and, h2, Nat.and_two_pow_sub_one_eq_mod]
  have hlt : (BitVec.ofInt 64 x).toNat % 2 ^ k < 2 ^ k := Nat.mod_lt _ hpos
  rw [IntWalk.i64_in _ (by omega)]
  have : (((BitVec.ofInt 64 x).toNat % 2 ^ k : Nat) : Int) = ((BitVec.ofInt 64 x).toNat : Int) % ((2 ^ k : Nat) : Int) := by simp
  rw [this, h1]
  have hd : ((2 ^ k : Nat) : Int) ∣ 2 ^ 64 := by
    have : (2 : Nat) ^ k ∣ 2 ^ 64 := Nat.pow_dvd_pow 2 (by omega)
    have := Int.natCast_dvd_natCast.2 this
    simpa using this
  rw [Int.emod_emod_of_dvd _ hd]
  simp
/-- How many places: a power of two. -/
def Pw (N : Nat) : Prop := ∃ k, k < 62 ∧ N = 2 ^ k
theorem mask_nat (N : Nat) (h : Pw N) (x : Nat) : bits .and .i64 (x : Int) ((N : Int) - 1) = ((x % N : Nat) : Int) := by
  obtain ⟨k, hk, rfl⟩ := h
  have := i64_mask x k (by omega)
  simpa using this
theorem mask_next (N : Nat) (h : Pw N) (a : Nat) (ha : a < N) : bits .and .i64 ((a : Int) + 1) ((N : Int) - 1) = (ad N a 1 : Nat) := by
  have := mask_nat N h (a + 1)
  rw [show ((a + 1 : Nat) : Int) = (a : Int) + 1 by omega] at this
  rw [this]
  unfold ad
  split
  · rw [Nat.mod_eq_of_lt (by omega)]
  · have : a + 1 = N := by omega
    rw [this, Nat.mod_self, Nat.sub_self]
theorem mask_dst (N : Nat) (h : Pw N) (a b : Nat) (ha : a < N) (hb : b < N) : bits .and .i64 ((b : Int) - (a : Int)) ((N : Int) - 1) = (dst N a b : Nat) := by
  obtain ⟨k, hk, rfl⟩ := h
  have := i64_mask ((b : Int) - a) k (by omega)
  have e : (((2 ^ k : Nat)) : Int) = (2 : Int) ^ k := by simp
  rw [e, this, ← e]
  generalize 2 ^ k = N at *
  unfold dst
  split
  · rw [Int.emod_eq_of_lt (by omega) (by omega)]; omega
  · have : ((b : Int) - a) % (N : Int) = ((b : Int) - a + N) % N := by simp
    rw [this, Int.emod_eq_of_lt (by omega) (by omega)]; omega
/-- A number's own place. -/
def homeN (N id : Nat) : Nat := id * 2654435769 % 4294967296 / 128 % N
theorem homeN_lt (N id : Nat) (h : 0 < N) : homeN N id < N := Nat.mod_lt _ h
theorem mask_home (N : Nat) (h : Pw N) (id : Nat) : bits .and .i64 (((id : Int) * 2654435769 % 4294967296) / 128) ((N : Int) - 1) = (homeN N id : Nat) := by
  have := mask_nat N h (id * 2654435769 % 4294967296 / 128)
  have e : ((id * 2654435769 % 4294967296 / 128 : Nat) : Int) = ((id : Int) * 2654435769 % 4294967296) / 128 := by omega
  rw [e] at this
  exact this
theorem Pw.pos {N : Nat} (h : Pw N) : 0 < N := by obtain ⟨k, _, rfl⟩ := h; exact Nat.pow_pos (by decide)
end Go.Proofs.YtjhghagmnkjpkaaGreat
