/- What the functions of package flow compute, at things of kind int: made, home, find. -/
import Derived.Test.YthnlggecjdifnaaFlowB
import Derived.Test.YthnlggecjdifnaaOwn
import Derived.BigQuiet
import Derived.Deep.QuietTactic
import Derived.Test.YthnlggecjdifnaaProg
namespace Go.Proofs.Ythnlggecjdifnaa.flowInt
set_option linter.unusedVariables false
set_option linter.unusedSimpArgs false
open Go.RowKit Go.Proofs.Ythnlggecjdifnaa

abbrev Th := Int
abbrev en (x : Th) : Value := .int .i64 x
def zx : Th := 0
def enS : Option (Nat × Th) → List Value
  | none => [.int .u32 0, .bool false, en zx]
  | some (id, x) => [.int .u32 id, .bool true, en x]
theorem enS_len (o : Option (Nat × Th)) : (enS o).length = 3 := by cases o <;> rfl

structure TMem (w : World) (tb sb : Nat) (S : Slots Th) (n room : Nat) : Prop where
  top : Blk w tb [.slice (some ⟨sb, 0, none⟩) S.length S.length, .int .i64 n, .int .i64 room] 43
  cel : Blk w sb (S.flatMap enS) 63
structure TOk (S : Slots Th) (n room : Nat) : Prop where
  pw : Pw S.length
  inv : FInv (homeN S.length) S
  cnt : (entsF S).length = n
  load : 4 * n ≤ 3 * S.length
  nr : n ≤ room
  r1 : 1 ≤ room
  r2 : room ≤ 4096
  ids : ∀ e ∈ entsF S, e.1 < 4294967296
  b1 : 8 ≤ S.length
  b2 : S.length ≤ 8192
theorem TMem.kp {S' : Nat → Prop} {w w' : World} {tb sb : Nat} {S : Slots Th} {n room : Nat} (h : TMem w tb sb S n room) (K : Kp S' w w') (h1 : ¬ S' tb) (h2 : ¬ S' sb) : TMem w' tb sb S n room := ⟨h.top.kp K h1, h.cel.kp K h2⟩
theorem TMem.old {w w' : World} {tb sb : Nat} {S : Slots Th} {n room : Nat} (h : TMem w tb sb S n room) (K : Kp none' w w') : TMem w' tb sb S n room := h.kp K id id
theorem TMem.cell {w : World} {tb sb : Nat} {S : Slots Th} {n room : Nat} (h : TMem w tb sb S n room) (i k : Nat) {u : Value} (hk : k < 3) (hu : (enS (tAt S i))[k]? = some u) (hi : i < S.length) : w.cell? ⟨sb, i * 3 + k, none⟩ = some u := by
  refine h.cel.cell _ ?_
  rw [flat_get enS 3 enS_len _ _ _ hk, List.getElem?_eq_getElem hi]
  unfold tAt at hu
  rw [List.getD_eq_getElem?_getD, List.getElem?_eq_getElem hi] at hu
  simpa using hu

set_option maxHeartbeats 1000000 in
theorem fMade (w : World) (tb sb : Nat) (S : Slots Th) (n room : Nat) (h : TMem w tb sb S n room) (hN : 0 < S.length) : Calls Try.prog 24 #[.pointer (some ⟨tb, 0, none⟩)] w fun e w' => e = .returned (.bool true) ∧ w = w' := by
  have c := h.top.cell 0 rfl
  have hNi : (0 : Int) < S.length := by omega
  clear h
  go_enter Try.func24, Try.ntmps24
  go_wp2
  go_ret
  exact ⟨rfl, rfl⟩
theorem fMadeNil (w : World) : Calls Try.prog 24 #[.pointer none] w fun e w' => e = .returned (.bool false) ∧ w = w' := by
  go_enter Try.func24, Try.ntmps24
  go_wp2
  go_ret
  exact ⟨rfl, rfl⟩
set_option maxHeartbeats 1000000 in
theorem fHome (w : World) (tb sb : Nat) (S : Slots Th) (n room : Nat) (h : TMem w tb sb S n room) (hp : Pw S.length) (hb : S.length ≤ 8192) (id : Nat) (hid : id < 4294967296) : Calls Try.prog 33 #[.pointer (some ⟨tb, 0, none⟩), .int .u32 id] w fun e w' => e = .returned (.int .i64 (homeN S.length id)) ∧ w = w' := by
  have c := h.top.cell 0 rfl
  have hN := hp.pos
  have hm := mask_home S.length hp id
  have HM := Lib.hid hm
  clear h hm
  go_enter Try.func33, Try.ntmps33
  go_wp2
  go_ret
  exact ⟨by rw [← HM.out]; rfl, rfl⟩

set_option maxRecDepth 100000 in
set_option maxHeartbeats 2000000 in
theorem fFind (w : World) (tb sb : Nat) (S : Slots Th) (n room : Nat) (h : TMem w tb sb S n room) (hp : Pw S.length) (hb : S.length ≤ 8192) (id : Nat) (hid : id < 4294967296) (hu : ∃ i, i < S.length ∧ tAt S i = none) :
    Calls Try.prog 25 #[.pointer (some ⟨tb, 0, none⟩), .int .u32 id] w fun e w' => (∃ d, FAt (homeN S.length) S id d ∧ e = .returned (.int .i64 (ad S.length (homeN S.length id) d : Nat))) ∧ w = w' := by
  have c := h.top.cell 0 rfl
  have hN := hp.pos
  have HM := Lib.hid h
  have HH := Lib.hid (fHome w tb sb S n room h hp hb id hid)
  have hh := homeN_lt S.length id hN
  obtain ⟨d0, hd0, hz0⟩ : ∃ d0, d0 < S.length ∧ tAt S (ad S.length (homeN S.length id) d0) = none := by
    obtain ⟨i, hi, hz⟩ := hu
    exact ⟨dst S.length (homeN S.length id) i, dst_lt hh hi, by rw [ad_dst hh hi]; exact hz⟩
  obtain ⟨N, hNe⟩ : ∃ N, S.length = N := ⟨_, rfl⟩
  have HFA : Hid (∀ d, d < N → (∀ e, e < d → ∃ k x, tAt S (ad N (homeN N id) e) = some (k, x) ∧ k ≠ id) → (tAt S (ad N (homeN N id) d) = none ∨ ∃ x, tAt S (ad N (homeN N id) d) = some (id, x)) → FAt (homeN N) S id d) := by
    subst hNe; exact fun d h1 h2 h3 => ⟨h1, h2, h3⟩
  have HCE : Hid (∀ i k u, k < 3 → (enS (tAt S i))[k]? = some u → i < N → w.cell? ⟨sb, i * 3 + k, none⟩ = some u) := by
    subst hNe; exact fun i k u h1 h2 h3 => HM.out.cell i k h1 h2 h3
  rw [hNe] at c hN hh hd0 hz0 hb hp HH ⊢
  have HNX := Lib.hid (fun a ha => mask_next N hp a ha)
  clear h hu hNe HM
  generalize homeN N id = hm at *
  have hz := Lib.hid hz0
  clear hz0
  go_enter Try.func25, Try.ntmps25
  go_wp2_with fail
  refine HH.out.mono ?_
  rintro e w1 ⟨rfl, rfl⟩
  go_wp2_with fail
  go_loop [5] (fun i0 => ∃ d : Nat, i0 = .int .i64 (ad N hm d : Nat) ∧ d ≤ d0 ∧ Hid (∀ e, e < d → ∃ k x, tAt S (ad N hm e) = some (k, x) ∧ k ≠ id)) (fun i0 => N - dst N hm (intOf i0).toNat)
  case atStart => exact ⟨0, by rw [ad_zero hh], by omega, fun e he => by omega⟩
  case round =>
    obtain ⟨d, rfl, hd, hr⟩ := hrel
    have hpl := ad_lt hh (show d < N by omega)
    have hdd := dst_ad hh (show d < N by omega)
    have hfa := HFA.out d (by omega) hr.out
    obtain ⟨q, hq⟩ : ∃ q, ad N hm d = q := ⟨_, rfl⟩
    have had : d + 1 < N → ad N q 1 = ad N hm (d + 1) := fun h => by rw [← hq]; exact ad_ad hh h
    rw [hq] at hpl hdd
    have hql : (q : Int) < N := by omega
    cases ht : tAt S q with
    | none =>
      have c1 := HCE.out q 1 (.bool false) (by omega) (by rw [ht]; rfl) hpl
      have HF := Lib.hid (hfa (.inl (by rw [hq]; exact ht)))
      clear hfa ht had hdd hr
      rw [hq]
      go_wp2_with fail
      go_ret
      exact ⟨⟨d, HF.out, by rw [hq]; rfl⟩, rfl⟩
    | some ex =>
      obtain ⟨k, x⟩ := ex
      have c0 := HCE.out q 0 (.int .u32 k) (by omega) (by rw [ht]; rfl) hpl
      have c1 := HCE.out q 1 (.bool true) (by omega) (by rw [ht]; rfl) hpl
      simp only [Nat.add_zero] at c0
      by_cases hk : k = id
      · subst hk
        have HF := Lib.hid (hfa (.inr ⟨x, by rw [hq]; exact ht⟩))
        clear hfa ht had hdd hr
        rw [hq]
        go_wp2_with fail
        go_ret
        exact ⟨⟨d, HF.out, by rw [hq]; rfl⟩, rfl⟩
      · have hkb : ((k : Int) != (id : Int)) = true := by rw [bne_iff_ne]; omega
        have hne : d ≠ d0 := fun e => by have := hz.out; rw [← e, hq, ht] at this; cases this
        have hmk := HNX.out q hpl
        have HR : Hid (∀ e, e < d + 1 → ∃ k x, tAt S (ad N hm e) = some (k, x) ∧ k ≠ id) := fun e he => by
          by_cases hed : e = d
          · subst hed; exact ⟨k, x, by rw [hq]; exact ht, hk⟩
          · exact hr.out e (by omega)
        have hda := had (by omega)
        have hd1 := dst_ad hh (show d + 1 < N by omega)
        clear hfa ht had hr hk
        rw [hda] at hmk
        rw [hq]
        obtain ⟨q', hq'⟩ : ∃ q', ad N hm (d + 1) = q' := ⟨_, rfl⟩
        rw [hq'] at hmk hd1
        have HQ' := Lib.hid hq'
        clear hq' hda
        go_wp2_with fail
        go_round
        case rel => exact ⟨d + 1, by rw [HQ'.out], by omega, HR.out⟩
        case measure => simp only [intOf, Int.toNat_natCast, hd1, hdd]; omega
end Go.Proofs.Ythnlggecjdifnaa.flowInt
