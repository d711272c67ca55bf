/- Plain laws of layer 27: the gap of two flows: the greatest distance of two partial sums is the greatest less the least. -/
import Derived.Test.YthjapdjglifopaaFairM
import Derived.Test.YthjapdjglifopaaWideN
namespace Go.Proofs.Ythjapdjglifopaa
set_option linter.unusedVariables false
set_option linter.unusedSimpArgs false

def cst (fl : List FlR) (f : Int) : Nat := (fl.getD f.toNat default).cost
/-- By how much more left of one flow than of another one, behind a reply, up to one. -/
def difD (fl : List FlR) (l : List RpR) (f g : Int) (a i : Nat) : Int := (costF fl f (cst fl f) (seg l (a + 1) (i + 1)) : Int) - (costF fl g (cst fl g) (seg l (a + 1) (i + 1)) : Int)
theorem difD_start (fl : List FlR) (l : List RpR) (f g : Int) (a : Nat) : difD fl l f g a a = 0 := by unfold difD; rw [seg_nil]; simp [costF]
theorem costF_app (fl : List FlR) (f : Int) (c : Nat) (x y : List RpR) : costF fl f c (x ++ y) = costF fl f c x + costF fl f c y := by
  refine snocF (P := fun y => costF fl f c (x ++ y) = costF fl f c x + costF fl f c y) (by simp [costF]) (fun y q ih => ?_) y
  rw [← List.append_assoc, costF_snoc, costF_snoc, ih]
  unfold costS
  split <;> omega
theorem seg_app (l : List RpR) (a i k : Nat) (h1 : a ≤ i) (h2 : i ≤ k) : seg l a k = seg l a i ++ seg l i k := by
  unfold seg
  by_cases hi : i ≤ l.length
  · have h3 : l.take k = l.take i ++ (l.take k).drop i := by
      have := (List.take_append_drop i (l.take k)).symm
      rwa [List.take_take, Nat.min_eq_left h2] at this
    have h4 : (l.take k).drop a = (l.take i ++ (l.take k).drop i).drop a := by rw [← h3]
    rw [h4, List.drop_append_of_le_length (by rw [List.length_take]; omega)]
  · rw [List.take_of_length_le (by omega : l.length ≤ k), List.take_of_length_le (by omega : l.length ≤ i), List.drop_of_length_le (by omega : l.length ≤ i), List.append_nil]
theorem difD_cost (fl : List FlR) (l : List RpR) (f g : Int) (a i k : Nat) (h1 : a ≤ i) (h2 : i ≤ k) : (costF fl f (cst fl f) (seg l (i + 1) (k + 1)) : Int) - (costF fl g (cst fl g) (seg l (i + 1) (k + 1)) : Int) = difD fl l f g a k - difD fl l f g a i := by
  unfold difD
  rw [seg_app l (a + 1) (i + 1) (k + 1) (by omega) (by omega), costF_app, costF_app]
  omega
theorem cost_bound (fl : List FlR) (hfl : ∀ x ∈ fl, x.ok) (l : List RpR) (hl : l.length ≤ 1000) (f : Int) (a k : Nat) : costF fl f (cst fl f) (seg l a k) ≤ 1208907372870555465154560000 := by
  have hc : cst fl f ≤ 18446744073709551616 := by
    unfold cst
    rw [List.getD_eq_getElem?_getD]
    rcases Nat.lt_or_ge f.toNat fl.length with h | h
    · rw [List.getElem?_eq_getElem h]; have := (hfl _ (List.getElem_mem h)).cost; simp only [Option.getD_some]; omega
    · rw [List.getElem?_eq_none h]; exact Nat.zero_le _
  have h := costF_le fl f (cst fl f) 18446744073709551616 hc (seg l a k)
  have hs : (seg l a k).length ≤ 1000 := by unfold seg; rw [List.length_drop, List.length_take]; omega
  omega
theorem difD_bound (fl : List FlR) (hfl : ∀ x ∈ fl, x.ok) (l : List RpR) (hl : l.length ≤ 1000) (f g : Int) (a i : Nat) : -1267650600228229401496703205376 ≤ difD fl l f g a i ∧ difD fl l f g a i ≤ 1267650600228229401496703205376 := by
  have h1 := cost_bound fl hfl l hl f (a + 1) (i + 1)
  have h2 := cost_bound fl hfl l hl g (a + 1) (i + 1)
  unfold difD
  omega
/-- One reply more. -/
def difS (fl : List FlR) (f g : Int) (d : Int) (q : RpR) : Int := if ofB fl q f 2 = true then d + (cst fl f * min q.len 65535 : Nat) else if ofB fl q g 2 = true then d - (cst fl g * min q.len 65535 : Nat) else d
theorem difD_step (fl : List FlR) (l : List RpR) (f g : Int) (hfg : f ≠ g) (a i : Nat) (ha : a ≤ i) (hi : i + 1 < l.length) : difD fl l f g a (i + 1) = difS fl f g (difD fl l f g a i) l[i + 1] := by
  unfold difD difS
  rw [seg_snoc l (a + 1) (i + 1) (by omega) hi, costF_snoc, costF_snoc]
  unfold costS
  by_cases h1 : ofB fl l[i + 1] f 2 = true
  · have h2 : ¬ ofB fl l[i + 1] g 2 = true := by
      intro h
      unfold ofB at h1 h
      simp only [Bool.and_eq_true, decide_eq_true_eq] at h1 h
      exact hfg (h1.2.symm.trans h.2)
    rw [if_pos h1, if_neg h2, if_pos h1]; omega
  · rw [if_neg h1, if_neg h1]
    by_cases h2 : ofB fl l[i + 1] g 2 = true
    · rw [if_pos h2, if_pos h2]; omega
    · rw [if_neg h2, if_neg h2]

def vD (D : Nat → Int) (i k : Nat) : Nat := capN (D k - D i).natAbs
def rowM (D : Nat → Int) (i : Nat) : Nat → Nat
  | 0 => 0
  | n + 1 => max (rowM D i n) (vD D i (i + n))
def allM (D : Nat → Int) (a b : Nat) : Nat → Nat
  | 0 => 0
  | n + 1 => max (allM D a b n) (rowM D (a + n) (b + 1 - (a + n)))
def hiD (D : Nat → Int) (a : Nat) : Nat → Int
  | 0 => D a
  | n + 1 => max (hiD D a n) (D (a + n + 1))
def loD (D : Nat → Int) (a : Nat) : Nat → Int
  | 0 => D a
  | n + 1 => min (loD D a n) (D (a + n + 1))
theorem hiD_ge (D : Nat → Int) (a n j : Nat) (h : j ≤ n) : D (a + j) ≤ hiD D a n := by
  induction n with
  | zero => have : j = 0 := by omega
            subst this; exact Int.le_refl _
  | succ n ih =>
    unfold hiD
    by_cases e : j = n + 1
    · subst e; exact Int.le_max_right _ _
    · exact Int.le_trans (ih (by omega)) (Int.le_max_left _ _)
theorem loD_le (D : Nat → Int) (a n j : Nat) (h : j ≤ n) : loD D a n ≤ D (a + j) := by
  induction n with
  | zero => have : j = 0 := by omega
            subst this; exact Int.le_refl _
  | succ n ih =>
    unfold loD
    by_cases e : j = n + 1
    · subst e; exact Int.min_le_right _ _
    · exact Int.le_trans (Int.min_le_left _ _) (ih (by omega))
theorem hiD_is (D : Nat → Int) (a n : Nat) : ∃ j, j ≤ n ∧ hiD D a n = D (a + j) := by
  induction n with
  | zero => exact ⟨0, Nat.le_refl _, rfl⟩
  | succ n ih =>
    obtain ⟨j, h1, h2⟩ := ih
    unfold hiD
    by_cases e : hiD D a n ≤ D (a + n + 1)
    · exact ⟨n + 1, Nat.le_refl _, by rw [Int.max_eq_right e]; rfl⟩
    · exact ⟨j, by omega, by rw [Int.max_eq_left (by omega)]; exact h2⟩
theorem loD_is (D : Nat → Int) (a n : Nat) : ∃ j, j ≤ n ∧ loD D a n = D (a + j) := by
  induction n with
  | zero => exact ⟨0, Nat.le_refl _, rfl⟩
  | succ n ih =>
    obtain ⟨j, h1, h2⟩ := ih
    unfold loD
    by_cases e : D (a + n + 1) ≤ loD D a n
    · exact ⟨n + 1, Nat.le_refl _, by rw [Int.min_eq_right e]; rfl⟩
    · exact ⟨j, by omega, by rw [Int.min_eq_left (by omega)]; exact h2⟩
theorem capN_mono {m n : Nat} (h : m ≤ n) : capN m ≤ capN n := by unfold capN; split <;> split <;> omega
theorem capN_lt (n : Nat) : capN n < 18446744073709551616 := by unfold capN; split <;> omega
theorem rowM_le (D : Nat → Int) (i M : Nat) (n : Nat) (h : ∀ j, j < n → vD D i (i + j) ≤ M) : rowM D i n ≤ M := by
  induction n with
  | zero => exact Nat.zero_le _
  | succ n ih => unfold rowM; exact Nat.max_le.2 ⟨ih (fun j hj => h j (by omega)), h n (by omega)⟩
theorem rowM_ge (D : Nat → Int) (i n j : Nat) (h : j < n) : vD D i (i + j) ≤ rowM D i n := by
  induction n with
  | zero => omega
  | succ n ih =>
    unfold rowM
    by_cases e : j = n
    · subst e; exact Nat.le_max_right _ _
    · exact Nat.le_trans (ih (by omega)) (Nat.le_max_left _ _)
theorem allM_le (D : Nat → Int) (a b M : Nat) (n : Nat) (h : ∀ j, j < n → rowM D (a + j) (b + 1 - (a + j)) ≤ M) : allM D a b n ≤ M := by
  induction n with
  | zero => exact Nat.zero_le _
  | succ n ih => unfold allM; exact Nat.max_le.2 ⟨ih (fun j hj => h j (by omega)), h n (by omega)⟩
theorem allM_ge (D : Nat → Int) (a b n j : Nat) (h : j < n) : rowM D (a + j) (b + 1 - (a + j)) ≤ allM D a b n := by
  induction n with
  | zero => omega
  | succ n ih =>
    unfold allM
    by_cases e : j = n
    · subst e; exact Nat.le_max_right _ _
    · exact Nat.le_trans (ih (by omega)) (Nat.le_max_left _ _)
def spG (D : Nat → Int) (a b : Nat) : Nat := capN (hiD D a (b - a) - loD D a (b - a)).toNat
theorem vD_in (D : Nat → Int) (a b p q : Nat) (hap : a ≤ p) (hpq : p ≤ q) (hqb : q ≤ b) : vD D p q ≤ allM D a b (b + 1 - a) := by
  have h1 := rowM_ge D p (b + 1 - p) (q - p) (by omega)
  have h2 := allM_ge D a b (b + 1 - a) (p - a) (by omega)
  rw [show a + (p - a) = p by omega] at h2
  rw [show p + (q - p) = q by omega] at h1
  exact Nat.le_trans h1 h2
theorem allM_eq (D : Nat → Int) (a b : Nat) (h : a ≤ b) : allM D a b (b + 1 - a) = spG D a b := by
  apply Nat.le_antisymm
  · refine allM_le D a b _ _ fun j hj => rowM_le D _ _ _ fun i hi => ?_
    unfold vD spG
    apply capN_mono
    have h1 := hiD_ge D a (b - a) j (by omega)
    have h2 := hiD_ge D a (b - a) (j + i) (by omega)
    have h3 := loD_le D a (b - a) j (by omega)
    have h4 := loD_le D a (b - a) (j + i) (by omega)
    rw [← Nat.add_assoc] at h2 h4
    omega
  · obtain ⟨p, hp, ep⟩ := hiD_is D a (b - a)
    obtain ⟨q, hq, eq⟩ := loD_is D a (b - a)
    have hge := hiD_ge D a (b - a) q hq
    unfold spG
    rcases Nat.le_total p q with hpq | hpq
    · have := vD_in D a b (a + p) (a + q) (by omega) (by omega) (by omega)
      refine Nat.le_trans ?_ this
      unfold vD
      apply capN_mono
      rw [ep, eq]; rw [ep] at hge; omega
    · have := vD_in D a b (a + q) (a + p) (by omega) (by omega) (by omega)
      refine Nat.le_trans ?_ this
      unfold vD
      apply capN_mono
      rw [ep, eq]; rw [ep] at hge; omega
def gapS (fl : List FlR) (l : List RpR) (f g : Int) (m : Nat) (s : Nat × Nat) : Nat := max m (spG (difD fl l f g s.1) s.1 s.2)
def gapF (fl : List FlR) (l : List RpR) (f g : Int) (sp : List (Nat × Nat)) : Nat := sp.foldl (gapS fl l f g) 0
theorem gapF_snoc (fl : List FlR) (l : List RpR) (f g : Int) (sp : List (Nat × Nat)) (s : Nat × Nat) : gapF fl l f g (sp ++ [s]) = gapS fl l f g (gapF fl l f g sp) s := by simp [gapF]
theorem spR_none : ∀ (bs : List Bool) (p : Bool) (i : Nat), (∀ b ∈ bs, b = false) → spR p i bs = []
  | [], _, _, _ => rfl
  | b :: r, p, i, h => by
    have hb := h b List.mem_cons_self
    subst hb
    unfold spR
    exact spR_none r false (i + 1) (fun b hb => h b (List.mem_cons_of_mem _ hb))
theorem spans_out (fl : List FlR) (l : List RpR) (f g : Int) (h : outB fl f g = true) : spans fl l f g = [] := by
  refine spR_none _ _ _ fun b hb => ?_
  unfold bitsF at hb
  obtain ⟨n, _, rfl⟩ := List.mem_map.1 hb
  unfold bothB; rw [h]; rfl
theorem cst_at (fl : List FlR) (f : Nat) (h : f < fl.length) : cst fl (f : Int) = fl[f].cost := by
  unfold cst; rw [Int.toNat_natCast, List.getD_eq_getElem?_getD, List.getElem?_eq_getElem h]; rfl
end Go.Proofs.Ythjapdjglifopaa
