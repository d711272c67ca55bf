/- Plain laws of layer 27: who waits, spans. -/
import Derived.Test.YthjapdjglifopaaFairP
namespace Go.Proofs.Ythjapdjglifopaa
set_option linter.unusedVariables false
set_option linter.unusedSimpArgs false

def cntS (fl : List FlR) (f : Int) (n : Int) (q : RpR) : Int := if ofB fl q f 1 = true then n + 1 else if ofB fl q f 2 = true then n - 1 else n
/-- How many packets of a flow wait behind replies. -/
def cntF (fl : List FlR) (f : Int) (l : List RpR) : Int := l.foldl (cntS fl f) 0
theorem cntF_snoc (fl : List FlR) (f : Int) (l : List RpR) (q : RpR) : cntF fl f (l ++ [q]) = cntS fl f (cntF fl f l) q := by simp [cntF]
theorem cntF_le (fl : List FlR) (f : Int) (l : List RpR) : -(l.length : Int) ≤ cntF fl f l ∧ cntF fl f l ≤ l.length := by
  refine snocF (P := fun l => -(l.length : Int) ≤ cntF fl f l ∧ cntF fl f l ≤ l.length) (by simp [cntF]) (fun l q ih => ?_) l
  rw [cntF_snoc, List.length_append]
  unfold cntS
  split
  · simp; omega
  · split <;> (simp; omega)
def waitsB (fl : List FlR) (l : List RpR) (f : Int) (n : Nat) : Bool := decide (0 < cntF fl f (l.take (n + 1)))
def outB (fl : List FlR) (f g : Int) : Bool := decide (f < 0) || decide (g < 0) || decide ((fl.length : Int) ≤ f) || decide ((fl.length : Int) ≤ g) || decide (f = g)
def bothB (fl : List FlR) (l : List RpR) (f g : Int) (n : Nat) : Bool := !outB fl f g && waitsB fl l f n && waitsB fl l g n
/-- The bits of all replies. -/
def bitsF (fl : List FlR) (l : List RpR) (f g : Int) : List Bool := (List.range l.length).map fun n => bothB fl l f g n
theorem bitsF_len (fl : List FlR) (l : List RpR) (f g : Int) : (bitsF fl l f g).length = l.length := by simp [bitsF]
theorem bitsF_get (fl : List FlR) (l : List RpR) (f g : Int) (n : Nat) (h : n < l.length) : (bitsF fl l f g)[n]? = some (bothB fl l f g n) := by simp [bitsF, h]
/-- Whether the bit at a place is on; off beyond the ends. -/
def bitI (bs : List Bool) (i : Int) : Bool := decide (0 ≤ i) && bs.getD i.toNat false
theorem bitI_neg (bs : List Bool) (i : Int) (h : i < 0) : bitI bs i = false := by unfold bitI; rw [decide_eq_false (by omega)]; rfl
theorem bitI_ge (bs : List Bool) (i : Int) (h : (bs.length : Int) ≤ i) : bitI bs i = false := by
  unfold bitI; rw [List.getD_eq_getElem?_getD, List.getElem?_eq_none (by omega)]; simp
theorem bitI_at (fl : List FlR) (l : List RpR) (f g : Int) (n : Nat) (h : n < l.length) : bitI (bitsF fl l f g) n = bothB fl l f g n := by
  unfold bitI; rw [List.getD_eq_getElem?_getD, Int.toNat_natCast, bitsF_get fl l f g n h]; simp

/-- The spans of bits: whether the bit before is on, the place of the first bit. -/
def spR : Bool → Nat → List Bool → List (Nat × Nat)
  | _, _, [] => []
  | p, i, true :: r => if p = true then spR true (i + 1) r else (i, i + (r.takeWhile id).length) :: spR true (i + 1) r
  | _, i, false :: r => spR false (i + 1) r
def setEnd (out : List (Nat × Nat)) (i : Nat) : List (Nat × Nat) := out.set (out.length - 1) ((out.getD (out.length - 1) (0, 0)).1, i)
/-- One step of the program's scan. -/
def spS (out : List (Nat × Nat)) (op : Bool) (i : Nat) (b : Bool) : List (Nat × Nat) := if b = true then (if op = true then setEnd out i else out ++ [(i, i)]) else out
def spF : List (Nat × Nat) → Bool → Nat → List Bool → List (Nat × Nat)
  | out, _, _, [] => out
  | out, op, i, b :: r => spF (spS out op i b) b (i + 1) r
theorem setEnd_snoc (out : List (Nat × Nat)) (a b i : Nat) : setEnd (out ++ [(a, b)]) i = out ++ [(a, i)] := by
  unfold setEnd
  simp
theorem spF_open (bs : List Bool) : (∀ out a i, spF (out ++ [(a, i)]) true (i + 1) bs = out ++ [(a, i + (bs.takeWhile id).length)] ++ spR true (i + 1) bs) ∧ (∀ out i, spF out false i bs = out ++ spR false i bs) := by
  induction bs with
  | nil => constructor <;> (intros; simp [spF, spR])
  | cons b r ih =>
    constructor
    · intro out a i
      cases b with
      | true =>
        unfold spF spS spR
        rw [if_pos rfl, if_pos rfl, if_pos rfl, setEnd_snoc, ih.1]
        simp only [List.takeWhile_cons, id_eq, if_true, List.length_cons]
        rw [show i + ((r.takeWhile id).length + 1) = i + 1 + (r.takeWhile id).length from by omega]
      | false =>
        unfold spF spS spR
        rw [if_neg (by simp), ih.2]
        simp
    · intro out i
      cases b with
      | true =>
        unfold spF spS spR
        rw [if_pos rfl, if_neg (by simp), if_neg (by simp), ih.1]
        simp
      | false =>
        unfold spF spS spR
        rw [if_neg (by simp), ih.2]
theorem spF_eq (bs : List Bool) : spF [] false 0 bs = spR false 0 bs := by rw [(spF_open bs).2]; rfl
theorem spF_len (bs : List Bool) : ∀ out op i, (spF out op i bs).length ≤ out.length + bs.length := by
  induction bs with
  | nil => intros; simp [spF]
  | cons b r ih =>
    intro out op i
    unfold spF
    have := ih (spS out op i b) b (i + 1)
    have h2 : (spS out op i b).length ≤ out.length + 1 := by
      unfold spS setEnd; split
      · split <;> simp
      · omega
    rw [List.length_cons]; omega
/-- Each span lies in the row. -/
theorem spR_in (bs : List Bool) : ∀ p i, ∀ s ∈ spR p i bs, i ≤ s.1 ∧ s.1 ≤ s.2 ∧ s.2 < i + bs.length := by
  induction bs with
  | nil => intro p i s h; simp [spR] at h
  | cons b r ih =>
    intro p i s h
    rw [List.length_cons]
    have htw : (r.takeWhile id).length ≤ r.length := (List.takeWhile_sublist id).length_le
    cases b with
    | false =>
      unfold spR at h
      have := ih _ _ s h; omega
    | true =>
      unfold spR at h
      by_cases hp : p = true
      · rw [if_pos hp] at h; have := ih _ _ s h; omega
      · rw [if_neg hp] at h
        rcases List.mem_cons.1 h with rfl | h
        · simp only; omega
        · have := ih _ _ s h; omega
/-- The document's walk, one step. -/
theorem spR_step (bs : List Bool) (p : Bool) (i : Nat) (h : i < bs.length) : spR p i (bs.drop i) = (if bs[i] = true ∧ p = false then [(i, i + ((bs.drop (i + 1)).takeWhile id).length)] else []) ++ spR bs[i] (i + 1) (bs.drop (i + 1)) := by
  rw [List.drop_eq_getElem_cons h]
  cases hb : bs[i] with
  | true =>
    show (if p = true then spR true (i + 1) (bs.drop (i + 1)) else (i, i + ((bs.drop (i + 1)).takeWhile id).length) :: spR true (i + 1) (bs.drop (i + 1))) = _
    by_cases hp : p = true
    · rw [if_pos hp, if_neg (by simp [hp])]; rfl
    · rw [if_neg hp, if_pos (by simp [hp])]; rfl
  | false =>
    show spR false (i + 1) _ = _
    rw [if_neg (by simp)]; rfl
theorem tw_step (bs : List Bool) (k : Nat) (h : bitI bs ((k : Int) + 1) = true) : ((bs.drop (k + 1)).takeWhile id).length = ((bs.drop (k + 2)).takeWhile id).length + 1 ∧ k + 1 < bs.length := by
  have hk : k + 1 < bs.length := by
    refine Classical.byContradiction fun hc => ?_
    rw [bitI_ge _ _ (by omega)] at h; cases h
  refine ⟨?_, hk⟩
  unfold bitI at h
  rw [show ((k : Int) + 1).toNat = k + 1 from by omega, List.getD_eq_getElem?_getD, List.getElem?_eq_getElem hk] at h
  simp at h
  rw [List.drop_eq_getElem_cons hk, List.takeWhile_cons]
  have hb : bs[k + 1] = true := by simpa using h.2
  rw [hb]; simp
theorem tw_end (bs : List Bool) (k : Nat) (h : bitI bs ((k : Int) + 1) = false) : ((bs.drop (k + 1)).takeWhile id).length = 0 := by
  by_cases hk : k + 1 < bs.length
  · unfold bitI at h
    rw [show ((k : Int) + 1).toNat = k + 1 from by omega, List.getD_eq_getElem?_getD, List.getElem?_eq_getElem hk] at h
    simp at h
    rw [List.drop_eq_getElem_cons hk, List.takeWhile_cons]
    have hb : bs[k + 1] = false := by cases hx : bs[k + 1] with | false => rfl | true => rw [hx] at h; simp at h; omega
    rw [hb]; simp
  · rw [List.drop_of_length_le (by omega)]; rfl
def spans (fl : List FlR) (l : List RpR) (f g : Int) : List (Nat × Nat) := spR false 0 (bitsF fl l f g)
def enSp (s : Nat × Nat) : List Value := [.int .i64 s.1, .int .i64 s.2]
theorem enSp_len (s : Nat × Nat) : (enSp s).length = 2 := rfl
end Go.Proofs.Ythjapdjglifopaa
