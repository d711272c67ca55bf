/- HistParts (layer 38): the plain law: the row in which a part ends. -/
import Derived.Test.YtkhipbpjknfloaaHistV
import Derived.Test.YtkhipbpjknfloaaHistG
namespace Go.Proofs.Ytkhipbpjknfloaa
set_option linter.unusedVariables false
set_option linter.unusedSimpArgs false
open Go.RowKit Go.Maps
def ones (ns : List Nat) : List Ad := ns.map fun n => (n, 1)
theorem ones_len (ns : List Nat) : (ones ns).length = ns.length := by unfold ones; rw [List.length_map]
theorem ones_snoc (ns : List Nat) (n : Nat) : ones (ns ++ [n]) = ones ns ++ [(n, 1)] := by unfold ones; rw [List.map_append]; rfl
theorem ones_64 {ns : List Nat} (h : ∀ n ∈ ns, n < 18446744073709551616) : ∀ e ∈ ones ns, e.1 < 18446744073709551616 := by
  intro e he
  obtain ⟨n, hn, rfl⟩ := List.mem_map.1 he
  exact h n hn
theorem cnt_ones (f : Nat) (ns : List Nat) (hl : ns.length < 1000000) (b : Nat) : cntN f (ones ns) b = ns.countP (fun n => decide (bk f n = b)) := by
  induction ns using snoc_ind with
  | h0 => rfl
  | h1 ns n ih =>
    have hl2 : ns.length < 1000000 := by simp at hl; omega
    rw [ones_snoc, cnt_snoc, ih hl2, List.countP_append, List.countP_cons, List.countP_nil]
    have hc : ns.countP (fun n => decide (bk f n = b)) ≤ ns.length := List.countP_le_length
    by_cases h : bk f n = b
    · rw [if_pos h, if_pos (by simpa using h)]; unfold satN; rw [if_pos (by omega)]
    · rw [if_neg h, if_neg (by simpa using h)]; rfl
theorem mem_ones {f : Nat} {ns : List Nat} {n : Nat} (h : n ∈ ns) : bk f n ∈ ksN f (ones ns) := by
  rw [ks_mem]; exact ⟨(n, 1), List.mem_map.2 ⟨n, h, rfl⟩, Nat.one_pos, rfl⟩
/-- Numbers, bucket by bucket. -/
theorem sum_count (f : Nat) (ns : List Nat) : ∀ ks : List Nat, ks.Pairwise (· < ·) → (ks.map fun b => ns.countP (fun n => decide (bk f n = b))).sum = ns.countP (fun n => decide (bk f n ∈ ks)) := by
  intro ks
  induction ks with
  | nil => intro _; simp
  | cons b ks ih =>
    intro hp
    rw [List.pairwise_cons] at hp
    rw [List.map_cons, List.sum_cons, ih hp.2]
    clear ih
    induction ns with
    | nil => rfl
    | cons n ns ih =>
      rw [List.countP_cons, List.countP_cons, List.countP_cons]
      have : ¬ (bk f n = b ∧ bk f n ∈ ks) := fun ⟨h1, h2⟩ => by have := hp.1 _ h2; omega
      by_cases h1 : bk f n = b
      · have h2 : ¬ bk f n ∈ ks := fun h => this ⟨h1, h⟩
        rw [if_pos (by simpa using h1), if_neg (by simpa using h2), if_pos (by simp [h1])]; omega
      · by_cases h2 : bk f n ∈ ks
        · rw [if_neg (by simpa using h1), if_pos (by simpa using h2), if_pos (by simp [h2])]; omega
        · rw [if_neg (by simpa using h1), if_neg (by simpa using h2), if_neg (by simp [h1, h2])]; omega
/-- How many of the numbers lie below a bucket. -/
def under (f : Nat) (ns : List Nat) (b : Nat) : Nat := ns.countP (fun n => decide (bk f n < b))
theorem under_mono (f : Nat) (ns : List Nat) {a b : Nat} (h : a ≤ b) : under f ns a ≤ under f ns b := by
  unfold under
  refine List.countP_mono_left fun n _ hn => ?_
  simp at hn ⊢; omega
theorem sumC_keys (f : Nat) (ns : List Nat) (hl : ns.length < 1000000) (ks : List Nat) (hp : ks.Pairwise (· < ·)) : sumC (ks.map (rowN f (ones ns))) = ns.countP (fun n => decide (bk f n ∈ ks)) := by
  rw [← sum_count f ns ks hp]
  unfold sumC
  rw [List.map_map]
  congr 1
  refine List.map_congr_left fun b _ => ?_
  show cntN f (ones ns) b = _
  exact cnt_ones f ns hl b
theorem sumC_all (f : Nat) (ns : List Nat) (hl : ns.length < 1000000) : sumC (rowsN f (ones ns)) = ns.length := by
  unfold rowsN
  rw [sumC_keys f ns hl _ (ks_up f _), List.countP_eq_length]
  intro n hn
  simpa using mem_ones hn
theorem sumR_sumC (rs : List RwN) (h : sumC rs < 18446744073709551616) : sumR rs = sumC rs := by
  induction rs using snoc_ind with
  | h0 => rfl
  | h1 rs r ih =>
    rw [sumC_snoc] at h
    rw [sumR_snoc, sumC_snoc, ih (by omega)]
    unfold satN; rw [if_pos (by omega)]
/-- THE LAW: where the rows are split, what lies below, and what lies up to it. -/
theorem split_at (f : Nat) (ns : List Nat) (hl : ns.length < 1000000) {pre post : List RwN} {r : RwN} (h : rowsN f (ones ns) = pre ++ r :: post) :
    ∃ b, b ∈ ksN f (ones ns) ∧ r = rowN f (ones ns) b ∧ sumC pre = under f ns b ∧ sumC pre + r.2.2 = under f ns (b + 1) := by
  unfold rowsN at h
  obtain ⟨k1, k2, hk, h1, h2⟩ := List.map_eq_append_iff.1 h
  obtain ⟨b, k3, rfl, rfl, h4⟩ := List.map_eq_cons_iff.1 h2
  have hp := ks_up f (ones ns)
  rw [hk] at hp
  obtain ⟨p1, p2, p3⟩ := List.pairwise_append.1 hp
  have p4 := List.pairwise_cons.1 p2
  refine ⟨b, by rw [hk]; simp, rfl, ?_, ?_⟩
  · rw [← h1, sumC_keys f ns hl k1 p1]
    refine List.countP_congr fun n hn => ?_
    have hm := mem_ones (f := f) hn
    rw [hk] at hm
    simp only [decide_eq_true_eq]
    constructor
    · intro h; exact p3 _ h b (by simp)
    · intro h
      rcases List.mem_append.1 hm with h5 | h5
      · exact h5
      · rcases List.mem_cons.1 h5 with h6 | h6
        · omega
        · have := p4.1 _ h6; omega
  · rw [← sumC_snoc, ← h1, show (k1.map (rowN f (ones ns))) ++ [rowN f (ones ns) b] = (k1 ++ [b]).map (rowN f (ones ns)) by rw [List.map_append]; rfl]
    have p5 : (k1 ++ [b]).Pairwise (· < ·) := List.pairwise_append.2 ⟨p1, by simp, fun x hx y hy => by simp at hy; subst hy; exact p3 x hx _ (by simp)⟩
    rw [sumC_keys f ns hl _ p5]
    refine List.countP_congr fun n hn => ?_
    have hm := mem_ones (f := f) hn
    rw [hk] at hm
    simp only [decide_eq_true_eq]
    constructor
    · intro h
      rcases List.mem_append.1 h with h5 | h5
      · have := p3 _ h5 b (by simp); omega
      · simp at h5; omega
    · intro h
      rcases List.mem_append.1 hm with h5 | h5
      · simp [h5]
      · rcases List.mem_cons.1 h5 with h6 | h6
        · simp [h6]
        · have := p4.1 _ h6; omega
/-- What the law counts. -/
theorem below_eq (f : Nat) (ns : List Nat) (b : Nat) : ns.countP (fun n => decide (n < lo f b)) = under f ns b := by
  unfold under
  refine List.countP_congr fun n _ => ?_
  simp only [decide_eq_true_eq]
  exact (bk_lt f n b).symm
theorem upto_eq (f : Nat) (hf : f ≤ 8) (ns : List Nat) (b : Nat) : ns.countP (fun n => decide (n ≤ lo f (b + 1) - 1)) = under f ns (b + 1) := by
  rw [← below_eq]
  refine List.countP_congr fun n _ => ?_
  simp only [decide_eq_true_eq]
  have h1 := lo_next f b
  have h2 : 0 < wd f b := by
    unfold wd; split
    · exact Nat.one_pos
    · exact pw_pos _
  omega
/-- Greater parts end in no lesser rows. -/
theorem parts_up (f : Nat) (ns : List Nat) {k k' b b' : Nat} (hk : k ≤ k') (h1 : under f ns b < k) (h2 : k' ≤ under f ns (b' + 1)) : lo f b ≤ lo f b' := by
  refine lo_mono f ?_
  refine Classical.byContradiction fun hc => ?_
  have := under_mono f ns (show b' + 1 ≤ b by omega)
  omega
theorem kN_mono (all : Nat) {a b : Nat} (h : a ≤ b) : kN all a ≤ kN all b := by
  unfold kN
  have : all * a ≤ all * b := Nat.mul_le_mul (Nat.le_refl _) h
  omega
end Go.Proofs.Ytkhipbpjknfloaa
