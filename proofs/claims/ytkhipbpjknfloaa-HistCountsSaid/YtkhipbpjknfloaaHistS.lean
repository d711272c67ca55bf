/- Layer 38, the document's: Rows. -/
import Derived.Test.YtkhipbpjknfloaaHistG
import Derived.Test.YtkhipbpjknfloaaSatR
namespace Go.Proofs.Ytkhipbpjknfloaa
set_option linter.unusedVariables false
set_option linter.unusedSimpArgs false
open Go.RowKit Go.Maps
def enAd (e : Ad) : List Value := [.int .u64 e.1, .int .u64 e.2]
theorem enAd_len (e : Ad) : (enAd e).length = 2 := rfl
/-- The next bucket behind the last one. -/
def nxtN (f : Nat) (last : Int) (l : List Ad) : Int := l.foldl (fun nx e => if 0 < e.2 ∧ last < (bk f e.1 : Nat) ∧ (nx < 0 ∨ ((bk f e.1 : Nat) : Int) < nx) then ((bk f e.1 : Nat) : Int) else nx) (-1)
theorem nxt_snoc (f : Nat) (last : Int) (l : List Ad) (e : Ad) : nxtN f last (l ++ [e]) = if 0 < e.2 ∧ last < (bk f e.1 : Nat) ∧ (nxtN f last l < 0 ∨ ((bk f e.1 : Nat) : Int) < nxtN f last l) then ((bk f e.1 : Nat) : Int) else nxtN f last l := by
  unfold nxtN; rw [List.foldl_append]; rfl
theorem nxt_spec (f : Nat) (last : Int) (l : List Ad) : (nxtN f last l = -1 ∧ ∀ b, inB f l b → ¬ last < (b : Nat)) ∨ (∃ c : Nat, nxtN f last l = c ∧ inB f l c ∧ last < (c : Nat) ∧ ∀ b, inB f l b → last < (b : Nat) → c ≤ b) := by
  induction l using snoc_ind with
  | h0 => exact .inl ⟨rfl, fun b ⟨e, he, _⟩ => by cases he⟩
  | h1 l e ih =>
    have hs : ∀ b, inB f (l ++ [e]) b ↔ inB f l b ∨ (0 < e.2 ∧ bk f e.1 = b) := fun b => by
      unfold inB
      constructor
      · rintro ⟨x, hx, h1, h2⟩
        rcases List.mem_append.1 hx with h | h
        · exact .inl ⟨x, h, h1, h2⟩
        · simp only [List.mem_singleton] at h; subst h; exact .inr ⟨h1, h2⟩
      · rintro (⟨x, hx, h⟩ | h)
        · exact ⟨x, List.mem_append_left _ hx, h⟩
        · exact ⟨e, by simp, h⟩
    rw [nxt_snoc]
    rcases ih with ⟨h1, h2⟩ | ⟨c, h1, h2, h3, h4⟩
    · rw [h1]
      split
      · rename_i hc
        refine .inr ⟨_, rfl, (hs _).2 (.inr ⟨hc.1, rfl⟩), hc.2.1, fun b hb hl => ?_⟩
        rcases (hs b).1 hb with h | h
        · exact absurd hl (h2 b h)
        · omega
      · rename_i hc
        refine .inl ⟨rfl, fun b hb hl => ?_⟩
        rcases (hs b).1 hb with h | ⟨h, rfl⟩
        · exact h2 b h hl
        · exact hc ⟨h, hl, .inl (by omega)⟩
    · rw [h1]
      split
      · rename_i hc
        refine .inr ⟨_, rfl, (hs _).2 (.inr ⟨hc.1, rfl⟩), hc.2.1, fun b hb hl => ?_⟩
        rcases (hs b).1 hb with h | h
        · have := h4 b h hl; omega
        · omega
      · rename_i hc
        refine .inr ⟨c, rfl, (hs _).2 (.inl h2), h3, fun b hb hl => ?_⟩
        rcases (hs b).1 hb with h | ⟨h, rfl⟩
        · exact h4 b h hl
        · refine Nat.le_of_not_lt fun hlt => hc ⟨h, hl, .inr (by omega)⟩
/-- The last bucket told, j being told. -/
def lastN (ks : List Nat) (j : Nat) : Int := if j = 0 then -1 else ((ks.getD (j - 1) 0 : Nat) : Int)
theorem nxt_end (f : Nat) (l : List Ad) : nxtN f (lastN (ksN f l) (ksN f l).length) l = -1 := by
  rcases nxt_spec f (lastN (ksN f l) (ksN f l).length) l with ⟨h, _⟩ | ⟨c, h, h2, h3, _⟩
  · exact h
  · exfalso
    have hm := (ks_mem f l c).2 h2
    obtain ⟨i, hi, hic⟩ := List.getElem_of_mem hm
    unfold lastN at h3
    rw [if_neg (by omega)] at h3
    have hup := ks_up f l
    rw [List.pairwise_iff_getElem] at hup
    rw [List.getD_eq_getElem?_getD, List.getElem?_eq_getElem (by omega), Option.getD_some] at h3
    by_cases he : i = (ksN f l).length - 1
    · subst he; omega
    · have := hup i ((ksN f l).length - 1) hi (by omega) (by omega)
      omega
theorem nxt_at (f : Nat) (l : List Ad) (j : Nat) (hj : j < (ksN f l).length) : nxtN f (lastN (ksN f l) j) l = ((ksN f l)[j] : Nat) := by
  have hup := ks_up f l
  rw [List.pairwise_iff_getElem] at hup
  have hlt : ∀ i (hi : i < (ksN f l).length), lastN (ksN f l) j < ((ksN f l)[i] : Nat) ↔ j ≤ i := fun i hi => by
    unfold lastN
    split
    · subst_vars; constructor <;> intro <;> omega
    · rw [List.getD_eq_getElem?_getD, List.getElem?_eq_getElem (by omega), Option.getD_some]
      constructor
      · intro h
        refine Nat.le_of_not_lt fun hc => ?_
        by_cases he : i = j - 1
        · subst he; omega
        · have := hup i (j - 1) hi (by omega) (by omega); omega
      · intro h
        have := hup (j - 1) i (by omega) hi (by omega); omega
  rcases nxt_spec f (lastN (ksN f l) j) l with ⟨_, h⟩ | ⟨c, h, h2, h3, h4⟩
  · exact absurd ((hlt j hj).2 (Nat.le_refl _)) (h _ ((ks_mem f l _).1 (List.getElem_mem hj)))
  · rw [h]
    have hm := (ks_mem f l c).2 h2
    obtain ⟨i, hi, hic⟩ := List.getElem_of_mem hm
    subst hic
    have h5 := (hlt i hi).1 h3
    have h6 := h4 _ ((ks_mem f l _).1 (List.getElem_mem hj)) ((hlt j hj).2 (Nat.le_refl _))
    by_cases he : i = j
    · subst he; rfl
    · have := hup j i hj hi (by omega); omega
theorem tRr : SlT Try.prog 68 78 (.agg #[.int .u64 0, .int .u64 0, .int .u64 0]) 3 24 := ⟨Try.underlying68, by kernel_rfl, rfl, by decide⟩
end Go.Proofs.Ytkhipbpjknfloaa
