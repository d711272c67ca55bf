/- Scripts (layer 41) in plain Lean: what a line says, what lines say, and how operations are put. -/
import Derived.Test.YthgpmpmnihijnaaDoorJoinP
import Derived.Test.YthgpmpmnihijnaaDoorOp5
namespace Go.Proofs.YthgpmpmnihijnaaDoor
set_option linter.unusedVariables false
set_option linter.unusedSimpArgs false

def inW : List UInt8 := [105, 110]
def outW : List UInt8 := [111, 117, 116]
def tickW : List UInt8 := [116, 105, 99, 107]
def statsW : List UInt8 := [115, 116, 97, 116, 115]
def junkW : List UInt8 := [106, 117, 110, 107]
/-- The kind of a first word, and how many numbers stand behind it. -/
def kd (w : List UInt8) : Int × Nat := if w = inW then (1, 3) else if w = outW then (2, 0) else if w = tickW then (3, 1) else if w = statsW then (4, 0) else if w = junkW then (0, 1) else (-1, 0)
theorem kd_cases (w : List UInt8) : (w = inW ∧ kd w = (1, 3)) ∨ (w = outW ∧ kd w = (2, 0)) ∨ (w = tickW ∧ kd w = (3, 1)) ∨ (w = statsW ∧ kd w = (4, 0)) ∨ (w = junkW ∧ kd w = (0, 1)) ∨
    (w ≠ inW ∧ w ≠ outW ∧ w ≠ tickW ∧ w ≠ statsW ∧ w ≠ junkW ∧ kd w = (-1, 0)) := by
  unfold kd
  by_cases h1 : w = inW
  · exact .inl ⟨h1, by rw [if_pos h1]⟩
  · by_cases h2 : w = outW
    · exact .inr (.inl ⟨h2, by rw [if_neg h1, if_pos h2]⟩)
    · by_cases h3 : w = tickW
      · exact .inr (.inr (.inl ⟨h3, by rw [if_neg h1, if_neg h2, if_pos h3]⟩))
      · by_cases h4 : w = statsW
        · exact .inr (.inr (.inr (.inl ⟨h4, by rw [if_neg h1, if_neg h2, if_neg h3, if_pos h4]⟩)))
        · by_cases h5 : w = junkW
          · exact .inr (.inr (.inr (.inr (.inl ⟨h5, by rw [if_neg h1, if_neg h2, if_neg h3, if_neg h4, if_pos h5]⟩))))
          · exact .inr (.inr (.inr (.inr (.inr ⟨h1, h2, h3, h4, h5, by rw [if_neg h1, if_neg h2, if_neg h3, if_neg h4, if_neg h5]⟩))))

/-- May an operation be? -/
def opR (o : OpR) : Bool :=
  if o.kind = 1 then decide (o.ticks = 0) else if o.flow ≠ 0 ∨ o.id ≠ 0 then false
  else if o.kind = 0 then decide (o.ticks = 0 ∧ o.len < 256 ∧ (o.len = 0 ∨ 4 < o.len)) else if o.kind = 3 then decide (o.len = 0) else decide ((o.kind = 2 ∨ o.kind = 4) ∧ o.len = 0 ∧ o.ticks = 0)

/-- The error of one number's text. -/
def e1 (small i : Nat) (w : List UInt8) : Int := if (rdU w).2 ≠ 0 then (rdU w).2 else if i < small ∧ 4294967296 ≤ (rdU w).1 then 5 else 0
def es (small : Nat) : Nat → List (List UInt8) → Int
  | _, [] => 0
  | i, w :: r => if e1 small i w ≠ 0 then e1 small i w else es small (i + 1) r
def vals (l : List (List UInt8)) : List Nat := l.map fun w => (rdU w).1
theorem es_good {small : Nat} : ∀ (l : List (List UInt8)) (i : Nat), (∀ (j : Nat) (h : j < l.length), e1 small (i + j) l[j] = 0) → es small i l = 0
  | [], _, _ => rfl
  | w :: r, i, h => by
    have h0 : e1 small i w = 0 := h 0 (by simp)
    rw [es, if_neg (by simp [h0])]
    exact es_good r (i + 1) (fun j hj => by have := h (j + 1) (by simp; omega); rw [show i + (j + 1) = i + 1 + j by omega] at this; simpa using this)
theorem es_bad {small : Nat} : ∀ (l : List (List UInt8)) (i k : Nat) (hk : k < l.length), (∀ (j : Nat) (h : j < l.length), j < k → e1 small (i + j) l[j] = 0) → e1 small (i + k) l[k] ≠ 0 → es small i l = e1 small (i + k) l[k]
  | w :: r, i, 0, _, _, hb => by
    have hb' : e1 small i w ≠ 0 := hb
    rw [es, if_pos hb']; rfl
  | w :: r, i, k + 1, hk, h, hb => by
    have h0 : e1 small i w = 0 := h 0 (by simp) (by omega)
    rw [es, if_neg (by simp [h0])]
    have hk' : k < r.length := by simpa using hk
    have := es_bad r (i + 1) k hk' (fun j hj hl => by have := h (j + 1) (by simp; omega) (by omega); rw [show i + (j + 1) = i + 1 + j by omega] at this; simpa using this)
      (by rw [show i + 1 + k = i + (k + 1) by omega]; simpa using hb)
    rw [this, show i + 1 + k = i + (k + 1) by omega]; simp

def smallK (k : Int) : Nat := if k = 1 then 2 else 0
def mkO (k : Int) (n : List Nat) : OpR :=
  if k = 1 then ⟨1, n.getD 0 0, n.getD 1 0, n.getD 2 0, 0⟩ else if k = 3 then ⟨3, 0, 0, 0, n.getD 0 0⟩ else if k = 0 then ⟨0, 0, 0, n.getD 0 0, 0⟩ else ⟨k, 0, 0, 0, 0⟩
def z5 : OpR := ⟨0, 0, 0, 0, 0⟩
/-- What a line's words say. -/
def oneL (l : List (List UInt8)) : OpR × Int :=
  if (kd (l.headD [])).1 < 0 ∨ l.length ≠ (kd (l.headD [])).2 + 1 then (z5, 31)
  else if es (smallK (kd (l.headD [])).1) 0 l.tail ≠ 0 then (z5, es (smallK (kd (l.headD [])).1) 0 l.tail)
  else if opR (mkO (kd (l.headD [])).1 (vals l.tail)) then (mkO (kd (l.headD [])).1 (vals l.tail), 0) else (z5, 6)
theorem oneL_no {l : List (List UInt8)} {k : Int} {m : Nat} (hk : kd (l.headD []) = (k, m)) (h : k < 0 ∨ l.length ≠ m + 1) : oneL l = (z5, 31) := by
  unfold oneL; rw [hk]; rw [if_pos h]
theorem oneL_err {l : List (List UInt8)} {k : Int} {m : Nat} {e : Int} (hk : kd (l.headD []) = (k, m)) (h : ¬ (k < 0 ∨ l.length ≠ m + 1)) (he : es (smallK k) 0 l.tail = e) (he0 : e ≠ 0) : oneL l = (z5, e) := by
  unfold oneL; rw [hk]; rw [if_neg h]; simp only [he]; rw [if_pos he0]
theorem oneL_ok {l : List (List UInt8)} {k : Int} {m : Nat} {x : OpR} {b : Bool} (hk : kd (l.headD []) = (k, m)) (h : ¬ (k < 0 ∨ l.length ≠ m + 1)) (he : es (smallK k) 0 l.tail = 0) (hx : mkO k (vals l.tail) = x) (hb : opR x = b) : oneL l = if b then (x, 0) else (z5, 6) := by
  unfold oneL; rw [hk]; rw [if_neg h]; simp only [he, hx, hb]; rw [if_neg (by simp)]

/-- A line that says nothing. -/
def skip (l : List UInt8) : Bool := match words l with | [] => true | w :: _ => w.head? == some 35
def lineE (l : List UInt8) : Int := if skip l then 0 else (oneL (words l)).2
def fb : List (List UInt8) → Option (Nat × Int)
  | [] => none
  | l :: r => if lineE l ≠ 0 then some (1, lineE l) else (fb r).map fun p => (p.1 + 1, p.2)
def outL (ls : List (List UInt8)) : List OpR := (ls.filter fun l => !skip l).map fun l => (oneL (words l)).1
/-- What a script says. -/
def readS (s : List UInt8) : List OpR × Nat × Int := match fb (parts 10 s) with | none => (outL (parts 10 s), 0, 0) | some (n, e) => ([], n, e)
theorem fb_good : ∀ (l : List (List UInt8)), (∀ x ∈ l, lineE x = 0) → fb l = none
  | [], _ => rfl
  | x :: r, h => by rw [fb, if_neg (by simp [h x (by simp)]), fb_good r (fun y hy => h y (by simp [hy]))]; rfl
theorem fb_bad : ∀ (pre : List (List UInt8)) (x : List UInt8) (post : List (List UInt8)), (∀ y ∈ pre, lineE y = 0) → lineE x ≠ 0 → fb (pre ++ x :: post) = some (pre.length + 1, lineE x)
  | [], x, post, _, hx => by rw [List.nil_append, fb, if_pos hx]; rfl
  | y :: r, x, post, h, hx => by rw [List.cons_append, fb, if_neg (by simp [h y (by simp)]), fb_bad r x post (fun z hz => h z (by simp [hz])) hx]; simp
theorem fb_none : ∀ (l : List (List UInt8)), fb l = none → ∀ x ∈ l, lineE x = 0
  | [], _ => by simp
  | x :: r, h => by
    rw [fb] at h
    by_cases hx : lineE x = 0
    · rw [if_neg (by simp [hx])] at h
      intro y hy
      rcases List.mem_cons.1 hy with rfl | hy
      · exact hx
      · exact fb_none r (by simpa using h) y hy
    · rw [if_pos hx] at h; cases h
theorem fb_app (a b : List (List UInt8)) : fb (a ++ b) = match fb a with | some p => some p | none => (fb b).map fun p => (p.1 + a.length, p.2) := by
  induction a with
  | nil => cases h : fb b <;> simp [fb, h]
  | cons x r ih =>
    rw [List.cons_append, fb, fb]
    by_cases hx : lineE x = 0
    · rw [if_neg (by simp [hx]), if_neg (by simp [hx]), ih]
      cases fb r with
      | none => cases fb b with
        | none => rfl
        | some p => simp; omega
      | some p => rfl
    · rw [if_pos hx, if_pos hx]
theorem outL_app (a b : List (List UInt8)) : outL (a ++ b) = outL a ++ outL b := by simp [outL]
theorem outL_skip (a : List (List UInt8)) (x : List UInt8) (h : skip x = true) : outL (a ++ [x]) = outL a := by rw [outL_app]; simp [outL, h]
theorem outL_snoc (a : List (List UInt8)) (x : List UInt8) (h : skip x = false) : outL (a ++ [x]) = outL a ++ [(oneL (words x)).1] := by rw [outL_app]; simp [outL, h]
theorem outL_len (a : List (List UInt8)) : (outL a).length ≤ a.length := by unfold outL; rw [List.length_map]; exact List.length_filter_le _ _
theorem parts_app (c : UInt8) (a b : List UInt8) : parts c (a ++ c :: b) = parts c a ++ parts c b := by
  unfold parts pst
  rw [List.foldl_append, List.foldl_cons]
  obtain ⟨o, n⟩ := a.foldl (pstep c) ([], [])
  have e : pstep c (o, n) c = (o ++ [n], []) := by unfold pstep; simp
  rw [e, pfold_out]; simp
theorem parts_length (c : UInt8) (l : List UInt8) : 1 ≤ (parts c l).length ∧ (parts c l).length ≤ l.length + 1 := by
  refine ⟨by unfold parts; simp, ?_⟩
  refine snocInd (P := fun l => (parts c l).length ≤ l.length + 1) (by simp [parts, pst]) (fun l d ih => ?_) l
  unfold parts at *
  rw [pst_snoc]; unfold pstep
  split <;> simp at * <;> omega

/-- ScriptParts. -/
theorem read_parts (s t : List UInt8) : fb (parts 10 (s ++ 10 :: t)) = (match fb (parts 10 s) with | some p => some p | none => (fb (parts 10 t)).map fun p => (p.1 + (parts 10 s).length, p.2)) ∧
    outL (parts 10 (s ++ 10 :: t)) = outL (parts 10 s) ++ outL (parts 10 t) := by
  rw [parts_app]; exact ⟨fb_app _ _, outL_app _ _⟩

/-- An operation's words, and its line. -/
def lw (o : OpR) : List (List UInt8) :=
  if o.kind = 1 then [inW, put o.flow, put o.id, put o.len] else if o.kind = 2 then [outW] else if o.kind = 3 then [tickW, put o.ticks] else if o.kind = 4 then [statsW] else [junkW, put o.len]
def lineT (o : OpR) : List UInt8 := joinL (lw o)
def putS (l : List OpR) : List UInt8 := l.flatMap fun o => lineT o ++ [10]
theorem putS_snoc (l : List OpR) (o : OpR) : putS (l ++ [o]) = putS l ++ (lineT o ++ [10]) := by simp [putS]
theorem put_free' (n : Nat) (c : UInt8) (hc : isDig c = false) : c ∉ put n := fun h => by
  have := List.all_eq_true.1 (put_all n) c h
  rw [hc] at this; cases this
theorem blank_dig {c : UInt8} (h : isDig c = true) : blank c = false := by
  rw [isDig_iff] at h
  unfold blank
  simp only [Bool.or_eq_false_iff, beq_eq_false_iff_ne]
  omega
theorem put_word (n : Nat) : isWord (put n) := ⟨put_ne n, fun c hc => blank_dig (List.all_eq_true.1 (put_all n) c hc)⟩
theorem rdU_put (n : Nat) (h : n < M64) : rdU (put n) = (n, 0) := by
  have hl : lastW (put n) = 0 := lastW_put n
  unfold rdU cutU unitU
  simp only [hl, Nat.lt_irrefl, if_false, rd_put n h]
  simp [h]
theorem lw_words (o : OpR) : ∀ w ∈ lw o, isWord w := by
  have hi : isWord inW := ⟨by decide, by decide⟩
  have ho : isWord outW := ⟨by decide, by decide⟩
  have ht : isWord tickW := ⟨by decide, by decide⟩
  have hs : isWord statsW := ⟨by decide, by decide⟩
  have hj : isWord junkW := ⟨by decide, by decide⟩
  unfold lw
  intro w hw
  split at hw
  · simp at hw; rcases hw with rfl | rfl | rfl | rfl <;> first | exact hi | exact put_word _
  · split at hw
    · simp at hw; subst hw; exact ho
    · split at hw
      · simp at hw; rcases hw with rfl | rfl <;> first | exact ht | exact put_word _
      · split at hw
        · simp at hw; subst hw; exact hs
        · simp at hw; rcases hw with rfl | rfl <;> first | exact hj | exact put_word _
theorem words_line (o : OpR) : words (lineT o) = lw o := words_join _ (lw_words o)
theorem line_free (o : OpR) : (10 : UInt8) ∉ lineT o := by
  have hp := fun n => put_free' n 10 rfl
  unfold lineT lw
  split
  · simp [joinL, inW, hp]
  · split
    · decide
    · split
      · simp [joinL, tickW, hp]
      · split
        · decide
        · simp [joinL, junkW, hp]
theorem opR_cases {o : OpR} (h : opR o = true) : (o.kind = 1 ∧ o.ticks = 0) ∨ (o.kind = 2 ∧ o.flow = 0 ∧ o.id = 0 ∧ o.len = 0 ∧ o.ticks = 0) ∨ (o.kind = 3 ∧ o.flow = 0 ∧ o.id = 0 ∧ o.len = 0) ∨ (o.kind = 4 ∧ o.flow = 0 ∧ o.id = 0 ∧ o.len = 0 ∧ o.ticks = 0) ∨
    (o.kind = 0 ∧ o.flow = 0 ∧ o.id = 0 ∧ o.ticks = 0) := by
  unfold opR at h
  split at h
  · exact .inl ⟨by assumption, by simpa using h⟩
  · split at h
    · cases h
    · rename_i h1 h2
      split at h
      · simp at h; omega
      · split at h
        · simp at h; omega
        · simp at h; omega
/-- A line that was put is read as it was. -/
theorem one_line (o : OpR) (hr : opR o = true) (hf : o.flow < 4294967296) (hi : o.id < 4294967296) (hl : o.len < M64) (ht : o.ticks < M64) : oneL (lw o) = (o, 0) := by
  have e := fun n h => rdU_put n h
  have hf' : o.flow < M64 := by unfold M64; omega
  have hi' : o.id < M64 := by unfold M64; omega
  have k1 : kd inW = (1, 3) := by decide
  have k2 : kd outW = (2, 0) := by decide
  have k3 : kd tickW = (3, 1) := by decide
  have k4 : kd statsW = (4, 0) := by decide
  have k5 : kd junkW = (0, 1) := by decide
  obtain ⟨k, f, i, n, t⟩ := o
  simp only at *
  rcases opR_cases hr with ⟨h, h0⟩ | ⟨h, h1, h2, h3, h4⟩ | ⟨h, h1, h2, h3⟩ | ⟨h, h1, h2, h3, h4⟩ | ⟨h, h1, h2, h3⟩ <;> simp only at * <;> subst_vars
  · have hw : lw ⟨1, f, i, n, 0⟩ = [inW, put f, put i, put n] := rfl
    rw [hw, oneL_ok (l := [inW, put f, put i, put n]) (k := 1) (m := 3) (x := ⟨1, f, i, n, 0⟩) (b := true) k1 (by simp) (by simp [es, e1, e f hf', e i hi', e n hl, smallK]; omega) (by simp [mkO, vals, e f hf', e i hi', e n hl]) hr]; rfl
  · have hw : lw ⟨2, 0, 0, 0, 0⟩ = [outW] := rfl
    rw [hw, oneL_ok (l := [outW]) (k := 2) (m := 0) (x := ⟨2, 0, 0, 0, 0⟩) (b := true) k2 (by simp) (by simp [es]) (by simp [mkO]) hr]; rfl
  · have hw : lw ⟨3, 0, 0, 0, t⟩ = [tickW, put t] := rfl
    rw [hw, oneL_ok (l := [tickW, put t]) (k := 3) (m := 1) (x := ⟨3, 0, 0, 0, t⟩) (b := true) k3 (by simp) (by simp [es, e1, e t ht, smallK]) (by simp [mkO, vals, e t ht]) hr]; rfl
  · have hw : lw ⟨4, 0, 0, 0, 0⟩ = [statsW] := rfl
    rw [hw, oneL_ok (l := [statsW]) (k := 4) (m := 0) (x := ⟨4, 0, 0, 0, 0⟩) (b := true) k4 (by simp) (by simp [es]) (by simp [mkO]) hr]; rfl
  · have hw : lw ⟨0, 0, 0, n, 0⟩ = [junkW, put n] := rfl
    rw [hw, oneL_ok (l := [junkW, put n]) (k := 0) (m := 1) (x := ⟨0, 0, 0, n, 0⟩) (b := true) k5 (by simp) (by simp [es, e1, e n hl, smallK]) (by simp [mkO, vals, e n hl]) hr]; rfl
theorem skip_line (o : OpR) : skip (lineT o) = false := by
  have h : ∃ w r, lw o = w :: r ∧ (w.head? == some 35) = false := by
    unfold lw
    split
    · exact ⟨_, _, rfl, rfl⟩
    · split
      · exact ⟨_, _, rfl, rfl⟩
      · split
        · exact ⟨_, _, rfl, rfl⟩
        · split
          · exact ⟨_, _, rfl, rfl⟩
          · exact ⟨_, _, rfl, rfl⟩
  obtain ⟨w, r, h1, h2⟩ := h
  unfold skip
  rw [words_line, h1]
  exact h2
theorem parts_putS (l : List OpR) (r : List UInt8) : parts 10 (putS l ++ r) = l.map lineT ++ parts 10 r := by
  induction l with
  | nil => rfl
  | cons o l ih =>
    have : putS (o :: l) ++ r = lineT o ++ 10 :: (putS l ++ r) := by simp [putS]
    rw [this, parts_cons _ _ _ (line_free o), ih]; rfl
/-- A remark says nothing. -/
theorem skip_hash (r : List UInt8) : skip (35 :: r) = true := by
  have h : ∀ r : List UInt8, ∃ w p, (wst (35 :: r) = ([], w) ∨ ∃ q, wst (35 :: r) = (w :: q, p)) ∧ w.head? = some 35 := by
    intro r
    refine snocInd (P := fun r => ∃ w p, (wst (35 :: r) = ([], w) ∨ ∃ q, wst (35 :: r) = (w :: q, p)) ∧ w.head? = some 35) ⟨[35], [], .inl rfl, rfl⟩ (fun l c ih => ?_) r
    obtain ⟨w, p, h, hw⟩ := ih
    have hne : w ≠ [] := by intro e; rw [e] at hw; cases hw
    rw [← List.cons_append, wst_snoc]
    rcases h with h | ⟨q, h⟩
    · rw [h]
      by_cases hb : blank c = true
      · rw [wstep_blank hb]
        exact ⟨w, [], .inr ⟨[], by unfold wend; simp [hne]⟩, hw⟩
      · rw [Bool.not_eq_true] at hb
        rw [wstep_sign hb]
        refine ⟨w ++ [c], [], .inl rfl, ?_⟩
        cases w with
        | nil => exact absurd rfl hne
        | cons a b => simpa using hw
    · rw [h]
      by_cases hb : blank c = true
      · rw [wstep_blank hb]
        unfold wend
        by_cases hp : p = []
        · exact ⟨w, [], .inr ⟨q, by simp [hp]⟩, hw⟩
        · exact ⟨w, [], .inr ⟨q ++ [p], by simp [hp]⟩, hw⟩
      · rw [Bool.not_eq_true] at hb
        rw [wstep_sign hb]
        exact ⟨w, _, .inr ⟨q, rfl⟩, hw⟩
  obtain ⟨w, p, h, hw⟩ := h r
  have hne : w ≠ [] := by intro e; rw [e] at hw; cases hw
  unfold skip words
  rcases h with h | ⟨q, h⟩
  · rw [h]; unfold wend; simp [hne, hw]
  · rw [h]; unfold wend
    by_cases hp : p = []
    · simp [hp, hw]
    · simp [hp, hw]
/-- ScriptBack: what is put, with remarks and empty lines between, is read as it was. -/
theorem read_back (l : List OpR) (rem : List UInt8) (hrem : (10 : UInt8) ∉ rem) (hok : ∀ o ∈ l, opR o = true ∧ o.flow < 4294967296 ∧ o.id < 4294967296 ∧ o.len < M64 ∧ o.ticks < M64) :
    readS ([10, 35] ++ rem ++ [10] ++ putS l ++ [32, 9]) = (l, 0, 0) := by
  have hp : parts 10 ([10, 35] ++ rem ++ [10] ++ putS l ++ [32, 9]) = [] :: (35 :: rem) :: (l.map lineT ++ [[32, 9]]) := by
    have e : [10, 35] ++ rem ++ [10] ++ putS l ++ [32, 9] = [] ++ 10 :: ((35 :: rem) ++ 10 :: (putS l ++ [32, 9])) := by simp
    rw [e, parts_cons _ _ _ (by simp), parts_cons _ _ _ (by simp [hrem]), parts_putS]; rfl
  have hg : ∀ x ∈ ([] :: (35 :: rem) :: (l.map lineT ++ [[32, 9]]) : List (List UInt8)), lineE x = 0 := by
    intro x hx
    simp only [List.mem_cons, List.mem_append, List.mem_map, List.not_mem_nil, or_false] at hx
    unfold lineE
    rcases hx with rfl | rfl | ⟨o, ho, rfl⟩ | rfl
    · rfl
    · rw [skip_hash]; rfl
    · rw [skip_line, words_line, one_line o (hok o ho).1 (hok o ho).2.1 (hok o ho).2.2.1 (hok o ho).2.2.2.1 (hok o ho).2.2.2.2]; rfl
    · rfl
  unfold readS
  rw [hp, fb_good _ hg]
  have ho : outL ([] :: (35 :: rem) :: (l.map lineT ++ [[32, 9]])) = l := by
    have e : ([] :: (35 :: rem) :: (l.map lineT ++ [[32, 9]]) : List (List UInt8)) = [[]] ++ ([35 :: rem] ++ (l.map lineT ++ [[32, 9]])) := by simp
    have h1 : outL [[]] = [] := rfl
    have h2 : outL [35 :: rem] = [] := by unfold outL; simp [skip_hash]
    have h3 : outL [[32, 9]] = [] := rfl
    have h4 : outL (l.map lineT) = l := by
      clear hp hg hrem h1 h2 h3 e
      induction l with
      | nil => rfl
      | cons o r ih =>
        have : outL (lineT o :: r.map lineT) = (oneL (words (lineT o))).1 :: outL (r.map lineT) := by unfold outL; simp [skip_line]
        rw [List.map_cons, this, ih (fun x hx => hok x (by simp [hx])), words_line, one_line o (hok o (by simp)).1 (hok o (by simp)).2.1 (hok o (by simp)).2.2.1 (hok o (by simp)).2.2.2.1 (hok o (by simp)).2.2.2.2]
    rw [e, outL_app, outL_app, outL_app, h1, h2, h3, h4]; simp
  rw [ho]
end Go.Proofs.YthgpmpmnihijnaaDoor
