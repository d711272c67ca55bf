/- Masks of a power of two: what '&' leaves. Names no function of the program. -/
import Derived.Test.YtfckgddodjmbdaaGreatDoorMPortNobodyF12
import Derived.Laws.Bits128
import Derived.Test.YtfckgddodjmbdaaGreatDoorMPortNobodyF1
import Derived.BigQuiet
import Derived.Deep.QuietTactic
import Derived.Test.YtfckgddodjmbdaaGreatDoorProg
import Derived.Test.YtfckgddodjmbdaaGreatDoorMPortNobodyF2
import Derived.Deep.MidRow
namespace Go.Proofs.YtfckgddodjmbdaaGreatDoor
set_option linter.unusedVariables false
set_option linter.unusedSimpArgs false

theorem i64_mask (x : Int) (k : Nat) (hk : k < 63) : bits .and .i64 x ((2 : Int) ^ k - 1) = x % 2 ^ k := by
  have hp : (2 : Nat) ^ k ≤ 2 ^ 62 := Nat.pow_le_pow_right (by decide) (by omega)
  have hpos : 0 < (2 : Nat) ^ k := Nat.pow_pos (by decide)
  have e1 : ((2 : Int) ^ k - 1) = ((2 ^ k - 1 : Nat) : Int) := by
    have : ((2 ^ k : Nat) : Int) = (2 : Int) ^ k := by simp
    omega
  have h2 : (BitVec.ofInt 64 ((2 ^ k - 1 : Nat) : Int)).toNat = 2 ^ k - 1 := by
    rw [BitVec.ofInt_natCast, BitVec.toNat_ofNat]; exact Nat.mod_eq_of_lt (by omega)
  have h1 : ((BitVec.ofInt 64 x).toNat : Int) = x % 2 ^ 64 := by
    rw [BitVec.toNat_ofInt]; omega
  rw [e1]
  show IntKind.i64.wrap ((BitVec.ofInt 64 x &&& BitVec.ofInt 64 ((2 ^ k - 1 : Nat) : Int)).toNat : Int) = _
  rw [BitVec.toNat_and, h2, Nat.and_two_pow_sub_one_eq_mod]
  have hlt : (BitVec.ofInt 64 x).toNat % 2 ^ k < 2 ^ k := Nat.mod_lt _ hpos
  rw [IntWalk.i64_in _ (by omega)]
  have : (((BitVec.ofInt 64 x).toNat % 2 ^ k : Nat) : Int) = ((BitVec.ofInt 64 x).toNat : Int) % ((2 ^ k : Nat) : Int) := by simp
  rw [this, h1]
  have hd : ((2 ^ k : Nat) : Int) ∣ 2 ^ 64 := by
    have : (2 : Nat) ^ k ∣ 2 ^ 64 := Nat.pow_dvd_pow 2 (by omega)
    have := Int.natCast_dvd_natCast.2 this
    simpa using this
  rw [Int.emod_emod_of_dvd _ hd]
  simp
/-- How many places: a power of two. -/
def Pw (N : Nat) : Prop := ∃ k, k < 62 ∧ N = 2 ^ k
theorem mask_nat (N : Nat) (h : Pw N) (x : Nat) : bits .and .i64 (x : Int) ((N : Int) - 1) = ((x % N : Nat) : Int) := by
  obtain ⟨k, hk, rfl⟩ := h
  have := i64_mask x k (by omega)
  simpa using this
theorem mask_next (N : Nat) (h : Pw N) (a : Nat) (ha : a < N) : bits .and .i64 ((a : Int) + 1) ((N : Int) - 1) = (ad N a 1 : Nat) := by
  have := mask_nat N h (a + 1)
  rw [show ((a + 1 : Nat) : Int) = (a : Int) + 1 by omega] at this
  rw [this]
  unfold ad
  split
  · rw [Nat.mod_eq_of_lt (by omega)]
  · have : a + 1 = N := by omega
    rw [this, Nat.mod_self, Nat.sub_self]
/-- A number's own place. -/
def homeN (N id : Nat) : Nat := id * 2654435769 % 4294967296 / 128 % N
theorem homeN_lt (N id : Nat) (h : 0 < N) : homeN N id < N := Nat.mod_lt _ h
theorem mask_home (N : Nat) (h : Pw N) (id : Nat) : bits .and .i64 (((id : Int) * 2654435769 % 4294967296) / 128) ((N : Int) - 1) = (homeN N id : Nat) := by
  have := mask_nat N h (id * 2654435769 % 4294967296 / 128)
  have e : ((id * 2654435769 % 4294967296 / 128 : Nat) : Int) = ((id : Int) * 2654435769 % 4294967296) / 128 := by omega
  rw [e] at this
  exact this
theorem Pw.pos {N : Nat} (h : Pw N) : 0 < N := by obtain ⟨k, _, rfl⟩ := h; exact Nat.pow_pos (by decide)
end Go.Proofs.YtfckgddodjmbdaaGreatDoor

namespace Go.Proofs.YtfckgddodjmbdaaGreatDoor
set_option linter.unusedVariables false
set_option linter.unusedSimpArgs false

theorem least {P : Nat → Prop} (n : Nat) (h : P n) : ∃ d, d ≤ n ∧ P d ∧ ∀ e, e < d → ¬ P e := by
  induction n using Nat.strongRecOn with
  | _ n ih =>
    by_cases hc : ∃ m, m < n ∧ P m
    · obtain ⟨m, h1, h2⟩ := hc
      obtain ⟨d, a, b, c⟩ := ih m h1 h2
      exact ⟨d, by omega, b, c⟩
    · exact ⟨n, Nat.le_refl _, h, fun e he hp => hc ⟨e, he, hp⟩⟩
section
variable {V : Type}
theorem FAt.there {hm : Nat → Nat} {S : Slots V} (h : ∀ id, hm id < S.length) (id : Nat) (hu : ∃ i, i < S.length ∧ tAt S i = none) : ∃ d, FAt hm S id d := by
  obtain ⟨i, hi, hz⟩ := hu
  obtain ⟨d, h1, h2, h3⟩ := least (P := fun d => tAt S (ad S.length (hm id) d) = none ∨ ∃ x, tAt S (ad S.length (hm id) d) = some (id, x)) (dst S.length (hm id) i) (.inl (by rw [ad_dst (h id) hi]; exact hz))
  have hl := dst_lt (h id) hi
  refine ⟨d, by omega, fun e he => ?_, h2⟩
  have h4 := h3 e he
  cases ht : tAt S (ad S.length (hm id) e) with
  | none => exact absurd (.inl ht) h4
  | some ex =>
    obtain ⟨k, x⟩ := ex
    refine ⟨k, x, rfl, fun hk => h4 (.inr ⟨x, ?_⟩)⟩
    rw [ht, hk]
/-- Under a number lies just what a table has. -/
theorem FAt.some_there {hm : Nat → Nat} {S : Slots V} (h : FInv hm S) {id d : Nat} (f : FAt hm S id d) (x : V) : tAt S (ad S.length (hm id) d) = some (id, x) ↔ (id, x) ∈ entsF S := by
  have hp := ad_lt (h.home id) f.lt
  constructor
  · intro he; exact (ents_mem S _).2 ⟨_, hp, he⟩
  · intro hm
    obtain ⟨i, hi, he⟩ := (ents_mem S _).1 hm
    rcases f.fin with h1 | ⟨y, h1⟩
    · exact absurd he (f.none_there h h1 i x hi)
    · have := h.one _ _ id y x hp hi h1 he
      rw [this]; exact he
theorem ents_nil (n : Nat) : entsF (List.replicate n (none : Option (Nat × V))) = [] := by
  unfold entsF
  induction n with
  | zero => rfl
  | succ n ih => rw [List.replicate_succ, List.filterMap_cons]; exact ih
theorem tAt_nil (n i : Nat) : tAt (List.replicate n (none : Option (Nat × V))) i = none := by
  unfold tAt
  rw [List.getD_eq_getElem?_getD, List.getElem?_replicate]
  split <;> rfl
theorem FInv.nil {hm : Nat → Nat} (n : Nat) (h : ∀ id, hm id < n) : FInv hm (List.replicate n (none : Option (Nat × V))) :=
  ⟨fun id => by rw [List.length_replicate]; exact h id, fun i id x _ he => (by rw [tAt_nil] at he; cases he), fun i j id x y _ _ he => (by rw [tAt_nil] at he; cases he)⟩
/-- The first n slots' things. -/
theorem ents_step (S : Slots V) (j : Nat) (hj : j < S.length) : entsF (S.take (j + 1)) = entsF (S.take j) ++ (tAt S j).toList := by
  unfold entsF tAt
  rw [List.take_succ_eq_append_getElem hj, List.filterMap_append, List.getD_eq_getElem?_getD, List.getElem?_eq_getElem hj]
  cases S[j] <;> rfl
end
end Go.Proofs.YtfckgddodjmbdaaGreatDoor

namespace Go.Proofs.YtfckgddodjmbdaaGreatDoor.flowOwn
set_option linter.unusedVariables false
set_option linter.unusedSimpArgs false
open Go.RowKit Go.Proofs.YtfckgddodjmbdaaGreatDoor

/-- What waits of a flow, and how much may. -/
structure Th where
  p : Int
  b : Nat
  m : Nat
def enx (x : Th) : List Value := [.int .i64 x.p, .int .u64 x.b, .int .u64 x.m]
abbrev en (x : Th) : Value := .agg #[.int .i64 x.p, .int .u64 x.b, .int .u64 x.m]
def zx : Th := ⟨0, 0, 0⟩
def enS : Option (Nat × Th) → List Value
  | none => [.int .u32 0, .bool false, .int .i64 0, .int .u64 0, .int .u64 0]
  | some (id, x) => [.int .u32 id, .bool true, .int .i64 x.p, .int .u64 x.b, .int .u64 x.m]
theorem enS_len (o : Option (Nat × Th)) : (enS o).length = 5 := by cases o <;> rfl

structure TMem (w : World) (tb sb : Nat) (S : Slots Th) (n room : Nat) : Prop where
  top : Blk w tb [.slice (some ⟨sb, 0, none⟩) S.length S.length, .int .i64 n, .int .i64 room] 278
  cel : Blk w sb (S.flatMap enS) 275
structure TOk (S : Slots Th) (n room : Nat) : Prop where
  pw : Pw S.length
  inv : FInv (homeN S.length) S
  cnt : (entsF S).length = n
  load : 4 * n ≤ 3 * S.length
  nr : n ≤ room
  r1 : 1 ≤ room
  r2 : room ≤ 4096
  ids : ∀ e ∈ entsF S, e.1 < 4294967296
  b1 : 8 ≤ S.length
  b2 : S.length ≤ 8192
theorem TMem.kp {S' : Nat → Prop} {w w' : World} {tb sb : Nat} {S : Slots Th} {n room : Nat} (h : TMem w tb sb S n room) (K : Kp S' w w') (h1 : ¬ S' tb) (h2 : ¬ S' sb) : TMem w' tb sb S n room := ⟨h.top.kp K h1, h.cel.kp K h2⟩
theorem TMem.old {w w' : World} {tb sb : Nat} {S : Slots Th} {n room : Nat} (h : TMem w tb sb S n room) (K : Kp none' w w') : TMem w' tb sb S n room := h.kp K id id
theorem TMem.cell {w : World} {tb sb : Nat} {S : Slots Th} {n room : Nat} (h : TMem w tb sb S n room) (i k : Nat) {u : Value} (hk : k < 5) (hu : (enS (tAt S i))[k]? = some u) (hi : i < S.length) : w.cell? ⟨sb, i * 5 + k, none⟩ = some u := by
  refine h.cel.cell _ ?_
  rw [flat_get enS 5 enS_len _ _ _ hk, List.getElem?_eq_getElem hi]
  unfold tAt at hu
  rw [List.getD_eq_getElem?_getD, List.getElem?_eq_getElem hi] at hu
  simpa using hu

set_option maxHeartbeats 1000000 in
theorem fMade (w : World) (tb sb : Nat) (S : Slots Th) (n room : Nat) (h : TMem w tb sb S n room) (hN : 0 < S.length) : Calls Tryz.prog 128 #[.pointer (some ⟨tb, 0, none⟩)] w fun e w' => e = .returned (.bool true) ∧ w = w' := by
  have c := h.top.cell 0 rfl
  have hNi : (0 : Int) < S.length := by omega
  clear h
  go_enter Tryz.func128, Tryz.ntmps128
  go_wp2
  go_ret
  exact ⟨rfl, rfl⟩
set_option maxHeartbeats 1000000 in
theorem fHome (w : World) (tb sb : Nat) (S : Slots Th) (n room : Nat) (h : TMem w tb sb S n room) (hp : Pw S.length) (hb : S.length ≤ 8192) (id : Nat) (hid : id < 4294967296) : Calls Tryz.prog 142 #[.pointer (some ⟨tb, 0, none⟩), .int .u32 id] w fun e w' => e = .returned (.int .i64 (homeN S.length id)) ∧ w = w' := by
  have c := h.top.cell 0 rfl
  have hN := hp.pos
  have hm := mask_home S.length hp id
  have HM := Lib.hid hm
  clear h hm
  go_enter Tryz.func142, Tryz.ntmps142
  go_wp2
  go_ret
  exact ⟨by rw [← HM.out]; rfl, rfl⟩

set_option maxRecDepth 100000 in
set_option maxHeartbeats 2000000 in
theorem fFind (w : World) (tb sb : Nat) (S : Slots Th) (n room : Nat) (h : TMem w tb sb S n room) (hp : Pw S.length) (hb : S.length ≤ 8192) (id : Nat) (hid : id < 4294967296) (hu : ∃ i, i < S.length ∧ tAt S i = none) :
    Calls Tryz.prog 129 #[.pointer (some ⟨tb, 0, none⟩), .int .u32 id] w fun e w' => (∃ d, FAt (homeN S.length) S id d ∧ e = .returned (.int .i64 (ad S.length (homeN S.length id) d : Nat))) ∧ w = w' := by
  have c := h.top.cell 0 rfl
  have hN := hp.pos
  have HM := Lib.hid h
  have HH := Lib.hid (fHome w tb sb S n room h hp hb id hid)
  have hh := homeN_lt S.length id hN
  obtain ⟨d0, hd0, hz0⟩ : ∃ d0, d0 < S.length ∧ tAt S (ad S.length (homeN S.length id) d0) = none := by
    obtain ⟨i, hi, hz⟩ := hu
    exact ⟨dst S.length (homeN S.length id) i, dst_lt hh hi, by rw [ad_dst hh hi]; exact hz⟩
  obtain ⟨N, hNe⟩ : ∃ N, S.length = N := ⟨_, rfl⟩
  have HFA : Hid (∀ d, d < N → (∀ e, e < d → ∃ k x, tAt S (ad N (homeN N id) e) = some (k, x) ∧ k ≠ id) → (tAt S (ad N (homeN N id) d) = none ∨ ∃ x, tAt S (ad N (homeN N id) d) = some (id, x)) → FAt (homeN N) S id d) := by
    subst hNe; exact fun d h1 h2 h3 => ⟨h1, h2, h3⟩
  have HCE : Hid (∀ i k u, k < 5 → (enS (tAt S i))[k]? = some u → i < N → w.cell? ⟨sb, i * 5 + k, none⟩ = some u) := by
    subst hNe; exact fun i k u h1 h2 h3 => HM.out.cell i k h1 h2 h3
  rw [hNe] at c hN hh hd0 hz0 hb hp HH ⊢
  have HNX := Lib.hid (fun a ha => mask_next N hp a ha)
  clear h hu hNe HM
  generalize homeN N id = hm at *
  have hz := Lib.hid hz0
  clear hz0
  go_enter Tryz.func129, Tryz.ntmps129
  go_wp2_with fail
  refine HH.out.mono ?_
  rintro e w1 ⟨rfl, rfl⟩
  go_wp2_with fail
  go_loop [5] (fun i0 => ∃ d : Nat, i0 = .int .i64 (ad N hm d : Nat) ∧ d ≤ d0 ∧ Hid (∀ e, e < d → ∃ k x, tAt S (ad N hm e) = some (k, x) ∧ k ≠ id)) (fun i0 => N - dst N hm (intOf i0).toNat)
  case atStart => exact ⟨0, by rw [ad_zero hh], by omega, fun e he => by omega⟩
  case round =>
    obtain ⟨d, rfl, hd, hr⟩ := hrel
    have hpl := ad_lt hh (show d < N by omega)
    have hdd := dst_ad hh (show d < N by omega)
    have hfa := HFA.out d (by omega) hr.out
    obtain ⟨q, hq⟩ : ∃ q, ad N hm d = q := ⟨_, rfl⟩
    have had : d + 1 < N → ad N q 1 = ad N hm (d + 1) := fun h => by rw [← hq]; exact ad_ad hh h
    rw [hq] at hpl hdd
    have hql : (q : Int) < N := by omega
    cases ht : tAt S q with
    | none =>
      have c1 := HCE.out q 1 (.bool false) (by omega) (by rw [ht]; rfl) hpl
      have HF := Lib.hid (hfa (.inl (by rw [hq]; exact ht)))
      clear hfa ht had hdd hr
      rw [hq]
      go_wp2_with fail
      go_ret
      exact ⟨⟨d, HF.out, by rw [hq]; rfl⟩, rfl⟩
    | some ex =>
      obtain ⟨k, x⟩ := ex
      have c0 := HCE.out q 0 (.int .u32 k) (by omega) (by rw [ht]; rfl) hpl
      have c1 := HCE.out q 1 (.bool true) (by omega) (by rw [ht]; rfl) hpl
      simp only [Nat.add_zero] at c0
      by_cases hk : k = id
      · subst hk
        have HF := Lib.hid (hfa (.inr ⟨x, by rw [hq]; exact ht⟩))
        clear hfa ht had hdd hr
        rw [hq]
        go_wp2_with fail
        go_ret
        exact ⟨⟨d, HF.out, by rw [hq]; rfl⟩, rfl⟩
      · have hkb : ((k : Int) != (id : Int)) = true := by rw [bne_iff_ne]; omega
        have hne : d ≠ d0 := fun e => by have := hz.out; rw [← e, hq, ht] at this; cases this
        have hmk := HNX.out q hpl
        have HR : Hid (∀ e, e < d + 1 → ∃ k x, tAt S (ad N hm e) = some (k, x) ∧ k ≠ id) := fun e he => by
          by_cases hed : e = d
          · subst hed; exact ⟨k, x, by rw [hq]; exact ht, hk⟩
          · exact hr.out e (by omega)
        have hda := had (by omega)
        have hd1 := dst_ad hh (show d + 1 < N by omega)
        clear hfa ht had hr hk
        rw [hda] at hmk
        rw [hq]
        obtain ⟨q', hq'⟩ : ∃ q', ad N hm (d + 1) = q' := ⟨_, rfl⟩
        rw [hq'] at hmk hd1
        have HQ' := Lib.hid hq'
        clear hq' hda
        go_wp2_with fail
        go_round
        case rel => exact ⟨d + 1, by rw [HQ'.out], by omega, HR.out⟩
        case measure => simp only [intOf, Int.toNat_natCast, hd1, hdd]; omega
end Go.Proofs.YtfckgddodjmbdaaGreatDoor.flowOwn

namespace Go.Proofs.YtfckgddodjmbdaaGreatDoor.flowOwn
set_option linter.unusedVariables false
set_option linter.unusedSimpArgs false
open Go.RowKit Go.Proofs.YtfckgddodjmbdaaGreatDoor

theorem TOk.free {S : Slots Th} {n room : Nat} (h : TOk S n room) : ∃ i, i < S.length ∧ tAt S i = none := unused S (by have := h.cnt; have := h.load; have := h.b1; omega)
theorem fFindAt (S : Slots Th) (id d : Nat) (hp : Pw S.length) (hb : S.length ≤ 8192) (hid : id < 4294967296) (hu : ∃ i, i < S.length ∧ tAt S i = none) (f : FAt (homeN S.length) S id d) (w : World) (tb sb : Nat) (n room : Nat) (h : TMem w tb sb S n room) :
    Calls Tryz.prog 129 #[.pointer (some ⟨tb, 0, none⟩), .int .u32 id] w fun e w' => e = .returned (.int .i64 (ad S.length (homeN S.length id) d : Nat)) ∧ Kp none' w w' :=
  (fFind w tb sb S n room h hp hb id hid hu).mono fun e w' ⟨⟨d', f', he⟩, hw⟩ => by
    subst hw
    rw [f.unique f']
    exact ⟨he, Kp.refl _ _⟩

theorem infoOwn : (Tryz.prog.info? 232).map (·.size) = some 3 := by kernel_rfl
set_option maxRecDepth 100000 in
set_option maxHeartbeats 4000000 in
theorem fGetNone (w : World) (tb sb : Nat) (S : Slots Th) (n room : Nat) (h : TMem w tb sb S n room) (ok : TOk S n room) (id : Nat) (hid : id < 4294967296) (d : Nat) (f : FAt (homeN S.length) S id d) (ht : tAt S (ad S.length (homeN S.length id) d) = none) :
    Calls Tryz.prog 105 #[.pointer (some ⟨tb, 0, none⟩), .int .u32 id] w fun e w' => e = .returned (.tuple #[en zx, .bool false]) ∧ Kp none' w w' := by
  have c := h.top.cell 0 rfl
  have hN := ok.pw.pos
  have hpl := ad_lt (homeN_lt S.length id hN) f.lt
  have GM := Lib.hid (fun W (k : Kp none' w W) => calls_same (fMade W tb sb S n room (h.old k) hN))
  have GF := Lib.hid (fun W (k : Kp none' w W) => fFindAt S id d ok.pw ok.b2 hid ok.free f W tb sb n room (h.old k))
  have hce := fun k u h1 h2 => h.cell (ad S.length (homeN S.length id) d) k (u := u) h1 h2 hpl
  obtain ⟨q, hq⟩ : ∃ q, ad S.length (homeN S.length id) d = q := ⟨_, rfl⟩
  rw [hq] at hpl GF hce ht
  have hql : (q : Int) < S.length := by omega
  have HMM := Lib.hid h
  have HQ := Lib.hid hq
  clear h f hq
  rw [ht] at hce
  have c1 := hce 1 (.bool false) (by omega) rfl
  clear hce ht
  go_enter Tryz.func105, Tryz.ntmps105
  go_wp2_with fail
  have HB4 := Lib.hid (((Blk.new w [.int .i64 0, .int .u64 0, .int .u64 0] 232).alloc (.cells #[.int .i64 0, .int .u64 0, .int .u64 0] 232)))
  have HB6 : Hid (Blk ((w.alloc (.cells #[.int .i64 0, .int .u64 0, .int .u64 0] 232)).alloc (.cells #[.int .i64 0, .int .u64 0, .int .u64 0] 232)) (w.heap.size + 1) [.int .i64 0, .int .u64 0, .int .u64 0] 232) := by
    have := Blk.new (w.alloc (.cells #[.int .i64 0, .int .u64 0, .int .u64 0] 232)) [.int .i64 0, .int .u64 0, .int .u64 0] 232
    rw [World.size_alloc] at this
    exact this
  have HK1 := Lib.hid (((Kp.refl none' w).alloc (.cells #[.int .i64 0, .int .u64 0, .int .u64 0] 232)).alloc (.cells #[.int .i64 0, .int .u64 0, .int .u64 0] 232))
  change Code.wp _ _ _ _ ((w.alloc (.cells #[.int .i64 0, .int .u64 0, .int .u64 0] 232)).alloc (.cells #[.int .i64 0, .int .u64 0, .int .u64 0] 232))
  generalize (w.alloc (.cells #[.int .i64 0, .int .u64 0, .int .u64 0] 232)).alloc (.cells #[.int .i64 0, .int .u64 0, .int .u64 0] 232) = W1 at *
  have d0 := HK1.out.cell c (fun x => x)
  have d1 := HK1.out.cell c1 (fun x => x)
  have GM1 := Lib.hid (fun W (k : Kp none' W1 W) => GM.out W (HK1.out.trans k))
  have GF1 := Lib.hid (fun W (k : Kp none' W1 W) => GF.out W (HK1.out.trans k))
  refine wp_region_kept2 [] [0, 1, 2, 3, 4, 5, 6, 7, 8, 9, 10, 11, 12, 13, 14] 15 (by kernel_rfl) (by kernel_rfl) (fun c a d u w h => by cases d <;> exact h) ?_
  simp only [pick, List.getElem?_cons_succ, List.getElem?_cons_zero, List.drop_succ_cons, List.drop_zero]
  show wpKL _ _ _ _ _ _
  repeat (first
    | (refine wpKL_op (by exact rfl) (by as_aux_lemma => intro W hK; have e0 := hK.cell d0 (fun x => x); have e1 := hK.cell d1 (fun x => x); go_simp; exact rfl) ?_; simp only [Act.put, List.setIfInBounds_toArray, List.set_cons_succ, List.set_cons_zero])
    | (refine wpKL_off (by exact rfl) ?_; simp only [Act.put, List.setIfInBounds_toArray, List.set_cons_succ, List.set_cons_zero])
    | (refine wpKL_call (by exact rfl) (by as_aux_lemma => intro W; go_simp; exact ⟨rfl, rfl⟩) (by intro W hK; with_reducible first | exact GM1.out W hK | exact GF1.out W hK) ?_; simp only [Act.put, List.setIfInBounds_toArray, List.set_cons_succ, List.set_cons_zero]))
  show ∀ W, _ → wpList _ _ _ _ _ _
  intro W2 hK2
  have HK2 := Lib.hid (HK1.out.trans hK2)
  have HC4 := Lib.hid (HB4.out.kp hK2 (fun x => x))
  have HC6 := Lib.hid (HB6.out.kp hK2 (fun x => x))
  have d2 := hK2.cell d0 (fun x => x)
  have GF2 := Lib.hid (fun W (k : Kp none' W2 W) => GF1.out W (hK2.trans k))
  clear hK2 d0 d1 HB4 HB6
  have x0 := HC6.out.cell 0 rfl
  have x1 := HC6.out.cell 1 rfl
  have x2 := HC6.out.cell 2 rfl
  have y0 := HC4.out.cell 0 rfl
  have y1 := HC4.out.cell 1 rfl
  have y2 := HC4.out.cell 2 rfl
  have yf := fun j => HC4.out.fz j
  go_wp2_with fail
  exact ret_row2 (by exact rfl) (((HC4.out.set 0 (.int .i64 0)).set 1 (.int .u64 0)).set 2 (.int .u64 0)) _ Tryz.underlying232 rfl infoOwn (by exact rfl) ⟨rfl, ((HK2.out.set (p := ⟨w.heap.size, 0, none⟩) (.inr (Nat.le_refl _)) _).set (p := ⟨w.heap.size, 1, none⟩) (.inr (Nat.le_refl _)) _).set (p := ⟨w.heap.size, 2, none⟩) (.inr (Nat.le_refl _)) _⟩
set_option maxRecDepth 100000 in
set_option maxHeartbeats 4000000 in
theorem fGetSome (w : World) (tb sb : Nat) (S : Slots Th) (n room : Nat) (h : TMem w tb sb S n room) (ok : TOk S n room) (id : Nat) (hid : id < 4294967296) (d : Nat) (f : FAt (homeN S.length) S id d) (x : Th) (ht : tAt S (ad S.length (homeN S.length id) d) = some (id, x)) :
    Calls Tryz.prog 105 #[.pointer (some ⟨tb, 0, none⟩), .int .u32 id] w fun e w' => e = .returned (.tuple #[en x, .bool true]) ∧ Kp none' w w' := by
  have c := h.top.cell 0 rfl
  have hN := ok.pw.pos
  have hpl := ad_lt (homeN_lt S.length id hN) f.lt
  have GM := Lib.hid (fun W (k : Kp none' w W) => calls_same (fMade W tb sb S n room (h.old k) hN))
  have GF := Lib.hid (fun W (k : Kp none' w W) => fFindAt S id d ok.pw ok.b2 hid ok.free f W tb sb n room (h.old k))
  have hce := fun k u h1 h2 => h.cell (ad S.length (homeN S.length id) d) k (u := u) h1 h2 hpl
  obtain ⟨q, hq⟩ : ∃ q, ad S.length (homeN S.length id) d = q := ⟨_, rfl⟩
  rw [hq] at hpl GF hce ht
  have hql : (q : Int) < S.length := by omega
  have HMM := Lib.hid h
  have HQ := Lib.hid hq
  clear h f hq
  rw [ht] at hce
  have c1 := hce 1 (.bool true) (by omega) rfl
  have c2 := hce 2 (.int .i64 x.p) (by omega) rfl
  have c3 : w.cell? ⟨sb, q * 5 + 2 + 1, none⟩ = some (.int .u64 x.b) := hce 3 (.int .u64 x.b) (by omega) rfl
  have c4 : w.cell? ⟨sb, q * 5 + 2 + 1 + 1, none⟩ = some (.int .u64 x.m) := hce 4 (.int .u64 x.m) (by omega) rfl
  clear hce ht
  go_enter Tryz.func105, Tryz.ntmps105
  go_wp2_with fail
  have HB4 := Lib.hid (((Blk.new w [.int .i64 0, .int .u64 0, .int .u64 0] 232).alloc (.cells #[.int .i64 0, .int .u64 0, .int .u64 0] 232)))
  have HB6 : Hid (Blk ((w.alloc (.cells #[.int .i64 0, .int .u64 0, .int .u64 0] 232)).alloc (.cells #[.int .i64 0, .int .u64 0, .int .u64 0] 232)) (w.heap.size + 1) [.int .i64 0, .int .u64 0, .int .u64 0] 232) := by
    have := Blk.new (w.alloc (.cells #[.int .i64 0, .int .u64 0, .int .u64 0] 232)) [.int .i64 0, .int .u64 0, .int .u64 0] 232
    rw [World.size_alloc] at this
    exact this
  have HK1 := Lib.hid (((Kp.refl none' w).alloc (.cells #[.int .i64 0, .int .u64 0, .int .u64 0] 232)).alloc (.cells #[.int .i64 0, .int .u64 0, .int .u64 0] 232))
  change Code.wp _ _ _ _ ((w.alloc (.cells #[.int .i64 0, .int .u64 0, .int .u64 0] 232)).alloc (.cells #[.int .i64 0, .int .u64 0, .int .u64 0] 232))
  generalize (w.alloc (.cells #[.int .i64 0, .int .u64 0, .int .u64 0] 232)).alloc (.cells #[.int .i64 0, .int .u64 0, .int .u64 0] 232) = W1 at *
  have d0 := HK1.out.cell c (fun x => x)
  have d1 := HK1.out.cell c1 (fun x => x)
  have GM1 := Lib.hid (fun W (k : Kp none' W1 W) => GM.out W (HK1.out.trans k))
  have GF1 := Lib.hid (fun W (k : Kp none' W1 W) => GF.out W (HK1.out.trans k))
  refine wp_region_kept2 [] [0, 1, 2, 3, 4, 5, 6, 7, 8, 9, 10, 11, 12, 13, 14] 15 (by kernel_rfl) (by kernel_rfl) (fun c a d u w h => by cases d <;> exact h) ?_
  simp only [pick, List.getElem?_cons_succ, List.getElem?_cons_zero, List.drop_succ_cons, List.drop_zero]
  show wpKL _ _ _ _ _ _
  repeat (first
    | (refine wpKL_op (by exact rfl) (by as_aux_lemma => intro W hK; have e0 := hK.cell d0 (fun x => x); have e1 := hK.cell d1 (fun x => x); go_simp; exact rfl) ?_; simp only [Act.put, List.setIfInBounds_toArray, List.set_cons_succ, List.set_cons_zero])
    | (refine wpKL_off (by exact rfl) ?_; simp only [Act.put, List.setIfInBounds_toArray, List.set_cons_succ, List.set_cons_zero])
    | (refine wpKL_call (by exact rfl) (by as_aux_lemma => intro W; go_simp; exact ⟨rfl, rfl⟩) (by intro W hK; with_reducible first | exact GM1.out W hK | exact GF1.out W hK) ?_; simp only [Act.put, List.setIfInBounds_toArray, List.set_cons_succ, List.set_cons_zero]))
  show ∀ W, _ → wpList _ _ _ _ _ _
  intro W2 hK2
  have HK2 := Lib.hid (HK1.out.trans hK2)
  have HC4 := Lib.hid (HB4.out.kp hK2 (fun x => x))
  have HC6 := Lib.hid (HB6.out.kp hK2 (fun x => x))
  have d2 := hK2.cell d0 (fun x => x)
  have GF2 := Lib.hid (fun W (k : Kp none' W2 W) => GF1.out W (hK2.trans k))
  clear hK2 d0 d1 HB4 HB6
  have d3 := HK2.out.cell c2 (fun x => x)
  have d4 := HK2.out.cell c3 (fun x => x)
  have d5 := HK2.out.cell c4 (fun x => x)
  clear c c1 c2 c3 c4
  go_wp2_with fail
  refine wp_region_kept2 [] [0, 1, 2, 3, 4, 5, 6, 7, 8, 9] 10 (by kernel_rfl) (by kernel_rfl) (fun c a d u w h => by cases d <;> exact h) ?_
  simp only [pick, List.getElem?_cons_succ, List.getElem?_cons_zero, List.drop_succ_cons, List.drop_zero]
  show wpKL _ _ _ _ _ _
  repeat (first
    | (refine wpKL_op (by exact rfl) (by as_aux_lemma => intro W hK; have e0 := hK.cell d2 (fun x => x); have e2 := hK.cell d3 (fun x => x); have e3 := hK.cell d4 (fun x => x); have e4 := hK.cell d5 (fun x => x); go_simp; exact rfl) ?_; simp only [Act.put, List.setIfInBounds_toArray, List.set_cons_succ, List.set_cons_zero])
    | (refine wpKL_off (by exact rfl) ?_; simp only [Act.put, List.setIfInBounds_toArray, List.set_cons_succ, List.set_cons_zero])
    | (refine wpKL_call (by exact rfl) (by as_aux_lemma => intro W; go_simp; exact ⟨rfl, rfl⟩) (by intro W hK; with_reducible first | exact GF2.out W hK) ?_; simp only [Act.put, List.setIfInBounds_toArray, List.set_cons_succ, List.set_cons_zero]))
  show ∀ W, _ → wpList _ _ _ _ _ _
  intro W3 hK3
  have HK3 := Lib.hid (HK2.out.trans hK3)
  have HC4' := Lib.hid (HC4.out.kp hK3 (fun x => x))
  clear hK3 d2 d3 d4 d5
  have y0 := HC4'.out.cell 0 rfl
  have y1 := HC4'.out.cell 1 rfl
  have y2 := HC4'.out.cell 2 rfl
  have yf := fun j => HC4'.out.fz j
  go_wp2_with fail
  exact ret_row2 (by exact rfl) (((HC4'.out.set 0 (.int .i64 x.p)).set 1 (.int .u64 x.b)).set 2 (.int .u64 x.m)) _ Tryz.underlying232 rfl infoOwn (by exact rfl) ⟨rfl, ((HK3.out.set (p := ⟨w.heap.size, 0, none⟩) (.inr (Nat.le_refl _)) _).set (p := ⟨w.heap.size, 1, none⟩) (.inr (Nat.le_refl _)) _).set (p := ⟨w.heap.size, 2, none⟩) (.inr (Nat.le_refl _)) _⟩
end Go.Proofs.YtfckgddodjmbdaaGreatDoor.flowOwn
