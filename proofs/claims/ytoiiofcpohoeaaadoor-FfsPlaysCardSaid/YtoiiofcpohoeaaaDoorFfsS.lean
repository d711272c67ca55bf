/- A set as its rising numbers: each method of package ffs by one contract. -/
import Derived.Test.YtoiiofcpohoeaaaDoorFfsZ
namespace Go.Proofs.YtoiiofcpohoeaaaDoor
open Go.RowKit

/-- At p lies a set of k levels with the numbers m. -/
def SR (w : World) (p k bl : Nat) (B : Nat → Nat) (m : List Int) : Prop := ∃ L, FSet w p k bl B L m.length ∧ Ok k L m

theorem SR.kp {S : Nat → Prop} {w w' : World} {p k bl : Nat} {B : Nat → Nat} {m : List Int} (h : SR w p k bl B m) (K : Kp S w w') (hs : ∀ b, Fp p bl B k b → ¬ S b) : SR w' p k bl B m := by
  obtain ⟨L, h1, h2⟩ := h; exact ⟨L, h1.kp K hs, h2⟩
theorem SR.old {w w' : World} {p k bl : Nat} {B : Nat → Nat} {m : List Int} (h : SR w p k bl B m) (K : Kp none' w w') : SR w' p k bl B m := h.kp K (fun _ _ h => h)
theorem SR.k1 {w : World} {p k bl : Nat} {B : Nat → Nat} {m : List Int} (h : SR w p k bl B m) : 1 ≤ k := by obtain ⟨L, _, h⟩ := h; exact h.k1
theorem SR.sorted {w : World} {p k bl : Nat} {B : Nat → Nat} {m : List Int} (h : SR w p k bl B m) : m.Pairwise (· < ·) := by obtain ⟨L, _, h⟩ := h; exact h.sorted
theorem SR.mem {w : World} {p k bl : Nat} {B : Nat → Nat} {m : List Int} (h : SR w p k bl B m) : ∀ z ∈ m, 0 ≤ z ∧ z < ((64 ^ k : Nat) : Int) := by obtain ⟨L, _, h⟩ := h; exact h.mem
theorem SR.lt {w : World} {p k bl : Nat} {B : Nat → Nat} {m : List Int} (h : SR w p k bl B m) {b : Nat} (hb : Fp p bl B k b) : b < w.heap.size := by obtain ⟨L, h, _⟩ := h; exact h.lt hb
/-- A row of ints is none of the set's blocks. -/
theorem SR.ne {w : World} {p k bl : Nat} {B : Nat → Nat} {m : List Int} (h : SR w p k bl B m) {base : Nat} {v : Value} {n : Nat} {xs : List Value} (ho : w.ownsRow base 3 1 v n xs) : ∀ b, v.ownBlock = some b → ¬ Fp p bl B k b := by
  obtain ⟨L, h, _⟩ := h
  intro b hb hf
  rcases ho.2 with ⟨rfl, _⟩ | ⟨g, cap, cur, rfl, _, hh, _⟩
  · cases hb
  · cases hb
    rcases hf with rfl | rfl | ⟨j, hj, rfl⟩
    · obtain ⟨c, h⟩ := h.top; have := h.is.symm.trans hh; simp at this
    · obtain ⟨c, h⟩ := h.lv; have := h.is.symm.trans hh; simp at this
    · have := (h.wd j hj).is.symm.trans hh; simp at this

theorem lvz_ok (k : Nat) (k1 : 1 ≤ k) : Ok k lvz [] := by
  have hz : ∀ n i, (List.replicate n 0).getD i 0 = 0 := fun n i => by simp [List.getD, List.getElem?_replicate]; split <;> simp
  have hb : ∀ j i, bitAt (lvz j) i = false := fun j i => by unfold bitAt lvz; rw [hz]; simp
  refine ⟨k1, fun j _ => by simp [lvz], fun j _ x hx => by simp [lvz] at hx; omega, fun i _ => by simp [hb], fun j _ i _ => by rw [hb]; unfold lvz; rw [hz]; rfl, fun z hz => by simp at hz, List.Pairwise.nil⟩

theorem sNew (k : Nat) (w : World) (k1 : 1 ≤ k) (k3 : k ≤ 3) :
    Calls Tryd.prog 6 #[.int .i64 k] w fun e w' => ∃ p bl B, e = .returned (.tuple #[.pointer (some ⟨p, 0, none⟩), .int .i64 0]) ∧ SR w' p k bl B [] ∧ (∀ b, Fp p bl B k b → w.heap.size ≤ b) ∧ Kp none' w w' :=
  (fNew k w k1 k3).mono fun _ _ ⟨p, bl, B, h1, h2, h3, h4⟩ => ⟨p, bl, B, h1, ⟨lvz, h2, lvz_ok k k1⟩, h3, h4⟩

theorem sLen (p k bl : Nat) (B : Nat → Nat) (m : List Int) (w : World) (h : SR w p k bl B m) :
    Calls Tryd.prog 17 #[.pointer (some ⟨p, 0, none⟩)] w fun e w' => e = .returned (.int .i64 m.length) ∧ w = w' := by
  obtain ⟨L, h, ok⟩ := h; exact fLen p k bl B L _ w h
/-- How many numbers a set of k levels may have. -/
def szI (k : Nat) : Int := ((64 ^ k : Nat) : Int)
theorem szI_le (k : Nat) (k1 : 1 ≤ k) (k3 : k ≤ 3) : 64 ≤ szI k ∧ szI k ≤ 262144 := by
  have : k = 1 ∨ k = 2 ∨ k = 3 := by omega
  rcases this with rfl | rfl | rfl <;> decide
theorem sSize (p k bl : Nat) (B : Nat → Nat) (m : List Int) (w : World) (h : SR w p k bl B m) (k3 : k ≤ 3) :
    Calls Tryd.prog 18 #[.pointer (some ⟨p, 0, none⟩)] w fun e w' => e = .returned (.int .i64 (szI k)) ∧ ∃ d, w' = w.drewN d := by
  obtain ⟨L, h, ok⟩ := h
  have := fSizeD p k bl B L _ w h ok.k1 k3 (ok.le k3 _ (by have := ok.k1; omega))
  have e : (64 * ((L (k - 1)).length : Int)) = szI k := by have := ok.size; unfold szI; omega
  rw [e] at this; exact this
theorem sHas (p k bl : Nat) (B : Nat → Nat) (m : List Int) (i : Int) (w : World) (h : SR w p k bl B m) (k3 : k ≤ 3) :
    Calls Tryd.prog 16 #[.pointer (some ⟨p, 0, none⟩), .int .i64 i] w fun e w' => e = .returned (.bool (decide (i ∈ m))) ∧ ∃ d, w' = w.drewN d := by
  obtain ⟨L, h, ok⟩ := h
  have hh := fHasD p k bl B L _ i w h ok.k1 k3 (ok.le k3 _ (by have := ok.k1; omega)) (ok.rng _ (by have := ok.k1; omega))
  have e : (decide (0 ≤ i ∧ i < 64 * (L (k - 1)).length) && bitAt (L (k - 1)) i.toNat) = decide (i ∈ m) := by
    have hs := ok.size
    by_cases hi : 0 ≤ i ∧ i < 64 * ((L (k - 1)).length : Int)
    · rw [ok.leaf _ (by omega)]
      have : ((i.toNat : Nat) : Int) = i := by omega
      simp [hi, this]
    · have : i ∉ m := fun hm => hi (by have := ok.mem i hm; omega)
      simp [hi, this]
  rw [e] at hh; exact hh
theorem sFrom (p k bl : Nat) (B : Nat → Nat) (m : List Int) (i : Int) (w : World) (h : SR w p k bl B m) (k3 : k ≤ 3) (hT : Tab w) (hi : i ≤ 9223372036854775807) :
    Calls Tryd.prog 14 #[.pointer (some ⟨p, 0, none⟩), .int .i64 i] w fun e w' => e = .returned (.tuple #[.int .i64 (fromL m i).1, .bool (fromL m i).2]) ∧ w = w' := by
  obtain ⟨L, h, ok⟩ := h; exact fFrom p k bl B L m i w h ok k3 hT hi
theorem sAll (p k bl : Nat) (B : Nat → Nat) (m : List Int) (w : World) (h : SR w p k bl B m) (k3 : k ≤ 3) (hT : Tab w) (hm : m.length ≤ 1000000) :
    Calls Tryd.prog 20 #[.pointer (some ⟨p, 0, none⟩)] w fun e w' => ∃ v, e = .returned v ∧ w'.ownsRow w.heap.size 3 1 v m.length (ints m) ∧ Kp none' w w' := by
  obtain ⟨L, h, ok⟩ := h; exact fAll p k bl B L m w h ok k3 hT hm

theorem dropL_none (m : List Int) (i : Int) (h : i ∉ m) : dropL m i = m := by
  unfold dropL; rw [List.filter_eq_self]; intro a ha; simp; rintro rfl; exact h ha
theorem dropL_len (m : List Int) (i : Int) (hs : m.Pairwise (· < ·)) (h : i ∈ m) : (dropL m i).length + 1 = m.length := by
  induction m with
  | nil => simp at h
  | cons a r ih =>
    obtain ⟨h1, h2⟩ := List.pairwise_cons.1 hs
    by_cases e : i = a
    · subst e
      have hn : i ∉ r := fun hr => by have := h1 i hr; omega
      have : dropL (i :: r) i = dropL r i := by simp [dropL]
      rw [this, dropL_none r i hn]; rfl
    · have hr : i ∈ r := by rcases List.mem_cons.1 h with h | h; (exact absurd h e); exact h
      have : dropL (a :: r) i = a :: dropL r i := by
        have hne : (a != i) = true := by simp; exact fun h => e h.symm
        simp [dropL, hne]
      rw [this, List.length_cons, ih h2 hr]; rfl

def inB (k : Nat) (i : Int) : Bool := decide (0 ≤ i) && decide (i < szI k)
def putB (k : Nat) (m : List Int) (i : Int) : Bool := inB k i && !decide (i ∈ m)
theorem sPut (p k bl : Nat) (B : Nat → Nat) (m : List Int) (i : Int) (w : World) (h : SR w p k bl B m) (k3 : k ≤ 3) (hm : m.length ≤ 100000) :
    Calls Tryd.prog 12 #[.pointer (some ⟨p, 0, none⟩), .int .i64 i] w fun e w' => e = .returned (.bool (putB k m i)) ∧ SR w' p k bl B (if putB k m i then putL m i else m) ∧ Kp (Fp p bl B k) w w' := by
  obtain ⟨L, h, ok⟩ := h
  by_cases hb : putB k m i = true
  · have hb' := hb
    simp only [putB, inB, Bool.and_eq_true, decide_eq_true_eq, Bool.not_eq_true', decide_eq_false_iff_not] at hb'
    obtain ⟨⟨h0, h1⟩, h2⟩ := hb'
    unfold szI at h1
    obtain ⟨z, rfl⟩ : ∃ z : Nat, i = z := ⟨i.toNat, by omega⟩
    refine (fPut p k bl B L _ z m w h ok k3 (by omega) h2 (by omega)).mono ?_
    rintro e w' ⟨he, hf, hk⟩
    rw [hb]
    exact ⟨he, ⟨_, by rw [if_pos rfl, putL_len]; exact hf, by rw [if_pos rfl]; exact ok.put z (by omega) h2⟩, hk⟩
  · have hb' : putB k m i = false := by simpa using hb
    refine (fPutNo p k bl B L _ i m w h ok k3 ?_).mono ?_
    · by_cases hm : i ∈ m
      · exact .inr hm
      · left; rintro ⟨h0, h1⟩; exact hb (by simp only [putB, inB, Bool.and_eq_true, decide_eq_true_eq, Bool.not_eq_true', decide_eq_false_iff_not]; exact ⟨⟨h0, h1⟩, hm⟩)
    · rintro e w' ⟨he, hk⟩
      rw [hb', if_neg (by simp)]
      exact ⟨he, ⟨L, h.old hk, ok⟩, hk.mono (fun _ _ h => h.elim)⟩
theorem sDrop (p k bl : Nat) (B : Nat → Nat) (m : List Int) (i : Int) (w : World) (h : SR w p k bl B m) (k3 : k ≤ 3) (hm : m.length ≤ 100000) :
    Calls Tryd.prog 10 #[.pointer (some ⟨p, 0, none⟩), .int .i64 i] w fun e w' => e = .returned (.bool (decide (i ∈ m))) ∧ SR w' p k bl B (dropL m i) ∧ Kp (Fp p bl B k) w w' := by
  obtain ⟨L, h, ok⟩ := h
  by_cases hi : i ∈ m
  · have h0 := ok.mem i hi
    obtain ⟨z, rfl⟩ : ∃ z : Nat, i = z := ⟨i.toNat, by omega⟩
    refine (fDrop p k bl B L _ z m w h ok k3 hi (by omega)).mono ?_
    rintro e w' ⟨he, hf, hk⟩
    have hl : ((dropL m z).length : Int) = m.length - 1 := by
      have hs := ok.sorted
      have : (dropL m z).length + 1 = m.length := by
        exact dropL_len m z hs hi
      omega
    exact ⟨by simp [he, hi], ⟨_, by rw [hl]; exact hf, ok.drop z (by omega) hi⟩, hk⟩
  · refine (fDropNo p k bl B L _ i m w h ok k3 hi).mono ?_
    rintro e w' ⟨he, hk⟩
    have e2 : dropL m i = m := by
      unfold dropL; rw [List.filter_eq_self]; intro a ha; simp; rintro rfl; exact hi ha
    rw [e2]
    exact ⟨by simp [he, hi], ⟨L, h.old hk, ok⟩, hk.mono (fun _ _ h => h.elim)⟩

end Go.Proofs.YtoiiofcpohoeaaaDoor
