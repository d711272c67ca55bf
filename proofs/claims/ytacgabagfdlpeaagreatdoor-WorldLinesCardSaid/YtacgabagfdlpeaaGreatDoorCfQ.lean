/- Layer 24 in plain Lean: what is put is read as it was, whatever the order of its lines. -/
import Derived.Test.YtacgabagfdlpeaaGreatDoorCfF
namespace Go.Proofs.YtacgabagfdlpeaaGreatDoor
set_option linter.unusedVariables false
set_option linter.unusedSimpArgs false

theorem partsA (c : UInt8) (a b : List UInt8) : parts c (a ++ c :: b) = parts c a ++ parts c b := by
  have h1 : parts c (a ++ c :: b) = (b.foldl (pstep c) ((pst c a).1 ++ [(pst c a).2], [])).1 ++ [(b.foldl (pstep c) ((pst c a).1 ++ [(pst c a).2], [])).2] := by
    unfold parts pst
    rw [List.foldl_append, List.foldl_cons]
    simp only [pstep, BEq.rfl, if_true]
  rw [h1, pfold_out]
  simp [parts, pst]
theorem freeU (c : UInt8) (hc : isDig c = false) (n : Nat) : c ∉ put n := fun h => by
  have := List.all_eq_true.1 (put_all n) c h
  rw [hc] at this; cases this
theorem blankD {c : UInt8} (h : isDig c = true) : blank c = false := by
  rw [isDig_iff] at h
  unfold blank
  simp only [Bool.or_eq_false_iff, beq_eq_false_iff_ne]
  omega
theorem putU_sign (n : Nat) : ∀ c ∈ putU n, isDig c = true ∨ c = 71 ∨ c = 77 ∨ c = 75 := by
  have h := fun m c hc => List.all_eq_true.1 (put_all m) c hc
  intro c hc
  unfold putU at hc
  split at hc
  · rcases List.mem_append.1 hc with hc | hc
    · exact .inl (h _ c hc)
    · simp at hc; exact .inr (.inl hc)
  · split at hc
    · rcases List.mem_append.1 hc with hc | hc
      · exact .inl (h _ c hc)
      · simp at hc; exact .inr (.inr (.inl hc))
    · split at hc
      · rcases List.mem_append.1 hc with hc | hc
        · exact .inl (h _ c hc)
        · simp at hc; exact .inr (.inr (.inr hc))
      · exact .inl (h _ c hc)
theorem putU_word (n : Nat) : isWord (putU n) := by
  refine ⟨?_, fun c hc => ?_⟩
  · unfold putU
    split
    · simp
    · split
      · simp
      · split
        · simp
        · exact put_ne n
  · rcases putU_sign n c hc with h | rfl | rfl | rfl
    · exact blankD h
    · rfl
    · rfl
    · rfl
theorem putU_free (n : Nat) : (10 : UInt8) ∉ putU n := fun hc => by
  rcases putU_sign n 10 hc with h | h | h | h
  · exact absurd h (by decide)
  · exact absurd h (by decide)
  · exact absurd h (by decide)
  · exact absurd h (by decide)
theorem numE_put (most n : Nat) (h : n < M64) (hm : n ≤ most) : numE most (putU n) = (n, 0) := by
  unfold numE
  rw [rdU_putU n h]
  simp only [ne_eq, not_true_eq_false, if_false]
  rw [if_neg (by omega)]

/-- A remark says nothing. -/
theorem skipH (r : List UInt8) : skip (35 :: r) = true := by
  have h : ∀ r : List UInt8, ∃ w p, (wst (35 :: r) = ([], w) ∨ ∃ q, wst (35 :: r) = (w :: q, p)) ∧ w.head? = some 35 := by
    intro r
    refine snocInd (P := fun r => ∃ w p, (wst (35 :: r) = ([], w) ∨ ∃ q, wst (35 :: r) = (w :: q, p)) ∧ w.head? = some 35) ⟨[35], [], .inl rfl, rfl⟩ (fun l c ih => ?_) r
    obtain ⟨w, p, h, hw⟩ := ih
    have hne : w ≠ [] := by intro e; rw [e] at hw; cases hw
    rw [← List.cons_append, wst_snoc]
    rcases h with h | ⟨q, h⟩
    · rw [h]
      by_cases hb : blank c = true
      · rw [wstep_blank hb]
        exact ⟨w, [], .inr ⟨[], by unfold wend; simp [hne]⟩, hw⟩
      · rw [Bool.not_eq_true] at hb
        rw [wstep_sign hb]
        refine ⟨w ++ [c], [], .inl rfl, ?_⟩
        cases w with
        | nil => exact absurd rfl hne
        | cons a b => simpa using hw
    · rw [h]
      by_cases hb : blank c = true
      · rw [wstep_blank hb]
        unfold wend
        by_cases hp : p = []
        · exact ⟨w, [], .inr ⟨q, by simp [hp]⟩, hw⟩
        · exact ⟨w, [], .inr ⟨q ++ [p], by simp [hp]⟩, hw⟩
      · rw [Bool.not_eq_true] at hb
        rw [wstep_sign hb]
        exact ⟨w, _, .inr ⟨q, rfl⟩, hw⟩
  obtain ⟨w, p, h, hw⟩ := h r
  have hne : w ≠ [] := by intro e; rw [e] at hw; cases hw
  unfold skip words
  rcases h with h | ⟨q, h⟩
  · rw [h]; unfold wend; simp [hne, hw]
  · rw [h]; unfold wend
    by_cases hp : p = []
    · simp [hp, hw]
    · simp [hp, hw]
theorem words_ahead (x : List UInt8) (c : UInt8) (h : blank c = true) : words (c :: x) = words x := by
  have := words_blank [] x c h
  simpa [words, wst, wend] using this
theorem skipH2 (r : List UInt8) : skip (32 :: 35 :: r) = true := by
  have := skipH r
  unfold skip at this ⊢
  rwa [words_ahead _ 32 rfl]
theorem words_pad (x : List UInt8) : words (9 :: (x ++ [32, 32])) = words x := by
  rw [words_ahead _ 9 rfl, words_blank x [32] 32 rfl]
  have : words [32] = [] := rfl
  rw [this, List.append_nil]
theorem stepL_words (s : CS) {x y : List UInt8} (h : words x = words y) : stepL s x = stepL s y := by
  unfold stepL skip; rw [h]
theorem stepL_skip (s : CS) {x : List UInt8} (h : skip x = true) : stepL s x = (s, 0) := by unfold stepL; rw [if_pos h]
theorem gud_app (s : CS) : ∀ (a b : List (List UInt8)), gud s (a ++ b) = (gud s a).bind fun s' => gud s' b
  | [], b => rfl
  | x :: a, b => by
    rw [List.cons_append, gud, gud]
    split
    · rfl
    · exact gud_app _ a b
theorem gud_sk (s : CS) {x : List UInt8} (h : skip x = true) (r : List (List UInt8)) : gud s (x :: r) = gud s r := by
  rw [gud, stepL_skip s h]; simp
theorem gud_cons (s : CS) (x : List UInt8) (r : List (List UInt8)) : gud s (x :: r) = if (stepL s x).2 ≠ 0 then none else gud (stepL s x).1 r := rfl
theorem gud_pads (s : CS) : ∀ (xs : List (List UInt8)), gud s (xs.flatMap fun x => [9 :: (x ++ [32, 32]), []]) = gud s xs
  | [] => rfl
  | x :: r => by
    have e : (x :: r).flatMap (fun x => [9 :: (x ++ [32, 32]), []]) = (9 :: (x ++ [32, 32])) :: [] :: r.flatMap (fun x => [9 :: (x ++ [32, 32]), []]) := by simp
    have h0 : skip [] = true := rfl
    rw [e, gud_cons s, gud_cons s x, stepL_words s (words_pad x), gud_sk _ h0, gud_pads _ r]
theorem gud_rems (rem : List UInt8) (s : CS) : ∀ (xs : List (List UInt8)), gud s (xs.flatMap fun x => [x, 35 :: rem]) = gud s xs
  | [] => rfl
  | x :: r => by
    have e : (x :: r).flatMap (fun x => [x, 35 :: rem]) = x :: (35 :: rem) :: r.flatMap (fun x => [x, 35 :: rem]) := by simp
    rw [e, gud_cons s x, gud_cons s x, gud_sk _ (skipH rem), gud_rems rem _ r]

/-- Lines, told as words. -/
def gudW (s : CS) : List (List (List UInt8)) → Option CS
  | [] => some s
  | l :: r => if (lineS s l).2 ≠ 0 then none else gudW (lineS s l).1 r
theorem gudW_app (s : CS) : ∀ (a b : List (List (List UInt8))), gudW s (a ++ b) = (gudW s a).bind fun s' => gudW s' b
  | [], b => rfl
  | x :: a, b => by
    rw [List.cons_append, gudW, gudW]
    split
    · rfl
    · exact gudW_app _ a b
def lineOk (ws : List (List UInt8)) : Prop := (∀ w ∈ ws, isWord w ∧ (10 : UInt8) ∉ w) ∧ ∃ w r, ws = w :: r ∧ (w.head? == some 35) = false
theorem gud_lines : ∀ (L : List (List (List UInt8))) (s : CS), (∀ ws ∈ L, lineOk ws) → gud s (L.map joinL) = gudW s L
  | [], s, _ => rfl
  | ws :: L, s, h => by
    obtain ⟨h1, w, r, e, h2⟩ := h ws (by simp)
    have hw := words_join ws (fun w hw => (h1 w hw).1)
    have hs : stepL s (joinL ws) = lineS s ws := by
      unfold stepL skip
      rw [hw]
      subst e
      simp only [h2, Bool.false_eq_true, if_false]
    rw [List.map_cons, gud, gudW, hs]
    split
    · rfl
    · exact gud_lines L _ (fun ws hws => h ws (by simp [hws]))
theorem joinL_free : ∀ (ws : List (List UInt8)), (∀ w ∈ ws, (10 : UInt8) ∉ w) → (10 : UInt8) ∉ joinL ws
  | [], _ => by simp [joinL]
  | [w], h => by simpa [joinL] using h w (by simp)
  | w :: v :: r, h => by
    have := joinL_free (v :: r) (fun x hx => h x (by simp only [List.mem_cons] at hx ⊢; exact .inr hx))
    unfold joinL
    simp only [List.mem_append, List.mem_cons, not_or]
    exact ⟨h w (by simp), by decide, this⟩
theorem parts_lines : ∀ (L : List (List (List UInt8))), (∀ ws ∈ L, lineOk ws) → parts 10 (L.flatMap fun l => joinL l ++ [10]) = L.map joinL ++ [[]]
  | [], _ => rfl
  | ws :: L, h => by
    have hf := joinL_free ws (fun w hw => ((h ws (by simp)).1 w hw).2)
    rw [List.flatMap_cons, List.append_assoc, List.singleton_append, parts_cons _ _ _ hf, parts_lines L (fun x hx => h x (by simp [hx]))]; rfl

theorem wordN_ok (c : CfR) (h : ChkOk c) (i : Nat) : isWord (wordN c i) ∧ (10 : UInt8) ∉ wordN c i := by
  obtain ⟨p0, p1, -⟩ := h
  unfold wordN
  split
  · have : c.rank.toNat - 1 = 0 ∨ c.rank.toNat - 1 = 1 ∨ c.rank.toNat - 1 = 2 := by omega
    rcases this with e | e | e <;> rw [e] <;> exact ⟨⟨by decide, by decide⟩, by decide⟩
  · split
    · have : c.back.toNat - 1 = 0 ∨ c.back.toNat - 1 = 1 ∨ c.back.toNat - 1 = 2 := by omega
      rcases this with e | e | e <;> rw [e] <;> exact ⟨⟨by decide, by decide⟩, by decide⟩
    · exact ⟨putU_word _, putU_free _⟩
theorem nms_ok : ∀ i, i < 11 → (isWord (nms.getD i []) ∧ (10 : UInt8) ∉ nms.getD i []) ∧ ((nms.getD i []).head? == some 35) = false := by
  intro i hi
  have : i = 0 ∨ i = 1 ∨ i = 2 ∨ i = 3 ∨ i = 4 ∨ i = 5 ∨ i = 6 ∨ i = 7 ∨ i = 8 ∨ i = 9 ∨ i = 10 := by omega
  rcases this with rfl | rfl | rfl | rfl | rfl | rfl | rfl | rfl | rfl | rfl | rfl <;> exact ⟨⟨⟨by decide, by decide⟩, by decide⟩, by decide⟩
theorem hdW_ok (c : CfR) (h : ChkOk c) (i : Nat) (hi : i < 10) : lineOk (hdW c i) := by
  refine ⟨fun w hw => ?_, _, _, rfl, (nms_ok i (by omega)).2⟩
  unfold hdW at hw
  simp only [List.mem_cons, List.not_mem_nil, or_false] at hw
  rcases hw with rfl | rfl
  · exact (nms_ok i (by omega)).1
  · exact wordN_ok c h i
theorem flW_ok (f : FlR) : lineOk (flW f) := by
  refine ⟨fun w hw => ?_, _, _, rfl, (nms_ok 10 (by omega)).2⟩
  unfold flW at hw
  simp only [List.mem_cons, List.not_mem_nil, or_false] at hw
  rcases hw with rfl | rfl | rfl | rfl | rfl | rfl
  · exact (nms_ok 10 (by omega)).1
  all_goals exact ⟨putU_word _, putU_free _⟩
theorem plc_nms : ∀ i, i < 11 → plc nms (nms.getD i []) = i := by
  intro i hi
  have : i = 0 ∨ i = 1 ∨ i = 2 ∨ i = 3 ∨ i = 4 ∨ i = 5 ∨ i = 6 ∨ i = 7 ∨ i = 8 ∨ i = 9 ∨ i = 10 := by omega
  rcases this with rfl | rfl | rfl | rfl | rfl | rfl | rfl | rfl | rfl | rfl | rfl <;> decide
theorem kindR : ∀ m, m < 3 → kindN krs (krs.getD m []) = m + 1 := by
  intro m hm
  have : m = 0 ∨ m = 1 ∨ m = 2 := by omega
  rcases this with rfl | rfl | rfl <;> decide
theorem kindB : ∀ m, m < 3 → kindN kbs (kbs.getD m []) = m + 1 := by
  intro m hm
  have : m = 0 ∨ m = 1 ∨ m = 2 := by omega
  rcases this with rfl | rfl | rfl <;> decide
theorem say_hd (c : CfR) (hc : c.ok) (h : ChkOk c) (i : Nat) (hi : i < 10) : sayE i (wordN c i) = (valN c i, 0) := by
  obtain ⟨p0, p1, p2, p3, p4, p6, p10⟩ := h
  have b5 := hc.bytes; have b7 := hc.mtu; have b8 := hc.rate; have b9 := hc.burst
  have h2 : c.levels.toNat < M64 := by unfold M64; omega
  have h3 : c.queues.toNat < M64 := by unfold M64; omega
  have h4 : c.packets.toNat < M64 := by unfold M64; omega
  have h6 : c.share.toNat < M64 := by unfold M64; omega
  have : i = 0 ∨ i = 1 ∨ i = 2 ∨ i = 3 ∨ i = 4 ∨ i = 5 ∨ i = 6 ∨ i = 7 ∨ i = 8 ∨ i = 9 := by omega
  rcases this with rfl | rfl | rfl | rfl | rfl | rfl | rfl | rfl | rfl | rfl
  · have e := kindR (c.rank.toNat - 1) (by omega)
    have e2 : c.rank.toNat - 1 + 1 = c.rank.toNat := by omega
    rw [e2] at e
    show ((kindN krs (krs.getD (c.rank.toNat - 1) [])), if kindN krs (krs.getD (c.rank.toNat - 1) []) = 0 then (22 : Int) else 0) = _
    rw [e, if_neg (by omega)]; rfl
  · have e := kindB (c.back.toNat - 1) (by omega)
    have e2 : c.back.toNat - 1 + 1 = c.back.toNat := by omega
    rw [e2] at e
    show ((kindN kbs (kbs.getD (c.back.toNat - 1) [])), if kindN kbs (kbs.getD (c.back.toNat - 1) []) = 0 then (22 : Int) else 0) = _
    rw [e, if_neg (by omega)]; rfl
  · exact numE_put 2147483647 _ h2 (by show c.levels.toNat ≤ _; omega)
  · exact numE_put 2147483647 _ h3 (by show c.queues.toNat ≤ _; omega)
  · exact numE_put 2147483647 _ h4 (by show c.packets.toNat ≤ _; omega)
  · exact numE_put 18446744073709551615 _ b5 (by unfold M64 at b5; show c.bytes ≤ _; omega)
  · exact numE_put 2147483647 _ h6 (by show c.share.toNat ≤ _; omega)
  · exact numE_put 18446744073709551615 _ b7 (by unfold M64 at b7; show c.mtu ≤ _; omega)
  · exact numE_put 18446744073709551615 _ b8 (by unfold M64 at b8; show c.rate ≤ _; omega)
  · exact numE_put 18446744073709551615 _ b9 (by unfold M64 at b9; show c.burst ≤ _; omega)
theorem line_at {s : CS} {ws : List (List UInt8)} {p : Nat} (hp : plc nms (ws.headD []) = p) : lineS s ws = (if p = 11 ∨ ws.length ≠ (if p = 10 then 6 else 2) ∨ (p < 10 ∧ p ∈ s.met) then (s, 31)
    else if p = 10 then (if flE 0 ws.tail ≠ 0 then (s, flE 0 ws.tail) else (⟨{ s.c with flows := s.c.flows ++ [flV ws.tail] }, s.met ++ [10]⟩, 0))
    else if (sayE p (ws.getD 1 [])).2 ≠ 0 then (s, (sayE p (ws.getD 1 [])).2) else (⟨setAt s.c p (sayE p (ws.getD 1 [])).1, s.met ++ [p]⟩, 0)) := by
  subst hp; rfl
theorem step_hd (c : CfR) (hc : c.ok) (h : ChkOk c) (s : CS) (i : Nat) (hi : i < 10) (hm : i ∉ s.met) : lineS s (hdW c i) = (⟨setAt s.c i (valN c i), s.met ++ [i]⟩, 0) := by
  have hp : plc nms ((hdW c i).headD []) = i := plc_nms i (by omega)
  have hs : sayE i ((hdW c i).getD 1 []) = (valN c i, 0) := say_hd c hc h i hi
  have hl : (hdW c i).length = 2 := rfl
  rw [line_at hp, hs, hl, if_neg, if_neg (by omega), if_neg (by simp)]
  rintro (h1 | h1 | h1)
  · omega
  · rw [if_neg (by omega)] at h1; exact h1 rfl
  · exact hm h1.2
theorem flE_put (f : FlR) (hf : f.ok) : flE 0 [putU f.id, putU f.cost, putU f.budget, putU f.size, putU f.cap] = 0 := by
  obtain ⟨g0, g1, g2, g3, g4⟩ := hf
  have e0 := numE_put 4294967295 f.id (by unfold M64; omega) (by omega)
  have e1 := numE_put 18446744073709551615 f.cost g1 (by omega)
  have e2 := numE_put 18446744073709551615 f.budget g2 (by omega)
  have e3 := numE_put 18446744073709551615 f.size g3 (by omega)
  have e4 := numE_put 18446744073709551615 f.cap g4 (by omega)
  simp [flE, mostF, e0, e1, e2, e3, e4]
theorem flV_put (f : FlR) (hf : f.ok) : flV [putU f.id, putU f.cost, putU f.budget, putU f.size, putU f.cap] = f := by
  obtain ⟨g0, g1, g2, g3, g4⟩ := hf
  have e0 := rdU_putU f.id (by unfold M64; omega)
  have e1 := rdU_putU f.cost g1
  have e2 := rdU_putU f.budget g2
  have e3 := rdU_putU f.size g3
  have e4 := rdU_putU f.cap g4
  simp [flV, e0, e1, e2, e3, e4]
theorem step_fl (s : CS) (f : FlR) (hf : f.ok) : lineS s (flW f) = (⟨{ s.c with flows := s.c.flows ++ [f] }, s.met ++ [10]⟩, 0) := by
  have hp : plc nms ((flW f).headD []) = 10 := plc_nms 10 (by omega)
  have he : flE 0 (flW f).tail = 0 := flE_put f hf
  have hv : flV (flW f).tail = f := flV_put f hf
  have hl : (flW f).length = 6 := rfl
  rw [line_at hp, he, hv, hl, if_neg (by simp), if_pos rfl, if_neg (by simp)]
theorem gud_hds (c : CfR) (hc : c.ok) (h : ChkOk c) : ∀ (l : List Nat) (s : CS), (∀ i ∈ l, i < 10) → l.Nodup → (∀ i ∈ l, i ∉ s.met) →
    gudW s (l.map (hdW c)) = some ⟨l.foldl (fun d i => setAt d i (valN c i)) s.c, s.met ++ l⟩
  | [], s, _, _, _ => by simp [gudW]
  | i :: l, s, h1, h2, h3 => by
    simp only [List.nodup_cons] at h2
    have hst := step_hd c hc h s i (h1 i (by simp)) (h3 i (by simp))
    rw [List.map_cons, gudW, hst]
    simp only [ne_eq, not_true_eq_false, if_false]
    rw [gud_hds c hc h l _ (fun j hj => h1 j (by simp [hj])) h2.2 (fun j hj => by
      have h4 := h3 j (by simp [hj])
      simp only [List.mem_append, List.mem_singleton, not_or]
      exact ⟨h4, fun e => h2.1 (by rw [← e]; exact hj)⟩)]
    simp
theorem gud_fls : ∀ (l : List FlR) (s : CS), (∀ f ∈ l, f.ok) → gudW s (l.map flW) = some ⟨{ s.c with flows := s.c.flows ++ l }, s.met ++ List.replicate l.length 10⟩
  | [], s, _ => by simp [gudW]
  | f :: l, s, h => by
    have hst := step_fl s f (h f (by simp))
    rw [List.map_cons, gudW, hst]
    simp only [ne_eq, not_true_eq_false, if_false]
    rw [gud_fls l _ (fun g hg => h g (by simp [hg]))]
    simp [List.replicate_succ]
theorem turn_c (c : CfR) (h : ChkOk c) (k : Nat) (hk : k ≤ 10) :
    ((List.range 10).take k).foldl (fun d i => setAt d i (valN c i)) { ((List.range 10).drop k).foldl (fun d i => setAt d i (valN c i)) zC with flows := c.flows } = c := by
  obtain ⟨p0, p1, p2, p3, p4, p6, p10⟩ := h
  obtain ⟨rk, bk, lv, qu, pk, bt, sh, mt, rt, bu, fl⟩ := c
  simp only at p0 p1 p2 p3 p4 p6
  have e0 : (rk.toNat : Int) = rk := by omega
  have e1 : (bk.toNat : Int) = bk := by omega
  have e2 : (lv.toNat : Int) = lv := by omega
  have e3 : (qu.toNat : Int) = qu := by omega
  have e4 : (pk.toNat : Int) = pk := by omega
  have e6 : (sh.toNat : Int) = sh := by omega
  have : k = 0 ∨ k = 1 ∨ k = 2 ∨ k = 3 ∨ k = 4 ∨ k = 5 ∨ k = 6 ∨ k = 7 ∨ k = 8 ∨ k = 9 ∨ k = 10 := by omega
  rcases this with rfl | rfl | rfl | rfl | rfl | rfl | rfl | rfl | rfl | rfl | rfl <;>
    (show CfR.mk (rk.toNat : Int) (bk.toNat : Int) (lv.toNat : Int) (qu.toNat : Int) (pk.toNat : Int) bt (sh.toNat : Int) mt rt bu fl = _; rw [e0, e1, e2, e3, e4, e6])
theorem turn_gud (c : CfR) (hc : c.ok) (h : ChkOk c) (k : Nat) (hk : k ≤ 10) :
    ∃ m, gudW ⟨zC, []⟩ ((((List.range 10).drop k).map (hdW c) ++ c.flows.map flW) ++ ((List.range 10).take k).map (hdW c)) = some ⟨c, m⟩ := by
  have hn : (List.range 10).Nodup := List.nodup_range
  have hta : (List.range 10).take k ++ (List.range 10).drop k = List.range 10 := List.take_append_drop _ _
  rw [← hta, List.nodup_append] at hn
  have hlt : ∀ i ∈ List.range 10, i < 10 := fun i hi => List.mem_range.1 hi
  rw [gudW_app, gudW_app, gud_hds c hc h _ _ (fun i hi => hlt i (List.mem_of_mem_drop hi)) hn.2.1 (fun i _ hm => by cases hm)]
  simp only [Option.bind_some]
  rw [gud_fls _ _ hc.flows]
  simp only [Option.bind_some]
  rw [gud_hds c hc h _ _ (fun i hi => hlt i (List.mem_of_mem_take hi)) hn.1 (fun i hi hm => by
    simp only [List.nil_append, List.mem_append] at hm
    rcases hm with hm | hm
    · exact hn.2.2 i hi i hm rfl
    · have := List.eq_of_mem_replicate hm
      have := hlt i (List.mem_of_mem_take hi)
      omega)]
  refine ⟨[] ++ (List.range 10).drop k ++ List.replicate c.flows.length 10 ++ (List.range 10).take k, ?_⟩
  have hz : (((List.range 10).drop k).foldl (fun d i => setAt d i (valN c i)) zC).flows = [] := by
    have : k = 0 ∨ k = 1 ∨ k = 2 ∨ k = 3 ∨ k = 4 ∨ k = 5 ∨ k = 6 ∨ k = 7 ∨ k = 8 ∨ k = 9 ∨ k = 10 := by omega
    rcases this with rfl | rfl | rfl | rfl | rfl | rfl | rfl | rfl | rfl | rfl | rfl <;> rfl
  simp only [hz, List.nil_append]
  rw [turn_c c h k hk]
theorem items_ok (c : CfR) (h : ChkOk c) : ∀ ws ∈ itemsC c, lineOk ws := by
  intro ws hws
  rcases List.mem_append.1 hws with hws | hws
  · obtain ⟨i, hi, rfl⟩ := List.mem_map.1 hws
    exact hdW_ok c h i (List.mem_range.1 hi)
  · obtain ⟨f, _, rfl⟩ := List.mem_map.1 hws
    exact flW_ok f
/-- ConfPuts: what is put is read as it was. -/
theorem read_put (c : CfR) (hc : c.ok) (h0 : chk c = 0) : readC (textC c) = (c, 0, 0) := by
  have h := chk_ok h0
  have hp := parts_lines (itemsC c) (items_ok c h)
  obtain ⟨m, hm⟩ := turn_gud c hc h 0 (by omega)
  have hg : gud ⟨zC, []⟩ (parts 10 (textC c)) = some ⟨c, m⟩ := by
    unfold textC
    rw [hp, gud_app, gud_lines _ _ (items_ok c h)]
    have e : itemsC c = (((List.range 10).drop 0).map (hdW c) ++ c.flows.map flW) ++ ((List.range 10).take 0).map (hdW c) := by simp [itemsC]
    rw [e, hm]; rfl
  rw [readC_done hg]
  simp [h0]

/-- The lines of a configuration's text. -/
def linesC (c : CfR) : List (List UInt8) := parts 10 (textC c)
theorem linesC_eq (c : CfR) (h : ChkOk c) : linesC c = (itemsC c).map joinL ++ [[]] := parts_lines (itemsC c) (items_ok c h)
def padT (x : List UInt8) : List UInt8 := [9] ++ x ++ [32, 32, 10, 10]
def remT (rem x : List UInt8) : List UInt8 := x ++ [10, 35] ++ rem ++ [10]
/-- The lines in another order. -/
def turnT (rem : List UInt8) (k : Nat) (l : List (List UInt8)) : List UInt8 := [32, 35] ++ rem ++ [10] ++ (l.drop k).flatMap padT ++ (l.take k).flatMap (remT rem)
theorem parts_pads : ∀ (xs : List (List UInt8)) (r : List UInt8), (∀ x ∈ xs, (10 : UInt8) ∉ x) → parts 10 (xs.flatMap padT ++ r) = xs.flatMap (fun x => [9 :: (x ++ [32, 32]), []]) ++ parts 10 r
  | [], r, _ => rfl
  | x :: xs, r, h => by
    have hx := h x (by simp)
    have e : (x :: xs).flatMap padT ++ r = (9 :: (x ++ [32, 32])) ++ 10 :: ([] ++ 10 :: (xs.flatMap padT ++ r)) := by simp [padT]
    rw [e, parts_cons _ _ _ (by simp [hx]), parts_cons _ _ _ (by simp), parts_pads xs r (fun y hy => h y (by simp [hy]))]; simp
theorem parts_rems (rem : List UInt8) (hr : (10 : UInt8) ∉ rem) : ∀ (xs : List (List UInt8)), (∀ x ∈ xs, (10 : UInt8) ∉ x) → parts 10 (xs.flatMap (remT rem)) = xs.flatMap (fun x => [x, 35 :: rem]) ++ [[]]
  | [], _ => rfl
  | x :: xs, h => by
    have hx := h x (by simp)
    have e : (x :: xs).flatMap (remT rem) = x ++ 10 :: ((35 :: rem) ++ 10 :: (xs.flatMap (remT rem))) := by simp [remT]
    rw [e, parts_cons _ _ _ hx, parts_cons _ _ _ (by simp [hr]), parts_rems rem hr xs (fun y hy => h y (by simp [hy]))]; simp
/-- ConfOrder: lines in another order say the same. -/
theorem read_turn (c : CfR) (hc : c.ok) (h0 : chk c = 0) (rem : List UInt8) (hr : (10 : UInt8) ∉ rem) (k : Nat) (hk : k ≤ 10) : readC (turnT rem k (linesC c)) = (c, 0, 0) := by
  have h := chk_ok h0
  obtain ⟨m, hm⟩ := turn_gud c hc h k hk
  have hl := linesC_eq c h
  have hf : ∀ x ∈ linesC c, (10 : UInt8) ∉ x := parts_free 10 _
  have e : turnT rem k (linesC c) = (32 :: 35 :: rem) ++ 10 :: (((linesC c).drop k).flatMap padT ++ ((linesC c).take k).flatMap (remT rem)) := by simp [turnT]
  have hg : gud ⟨zC, []⟩ (parts 10 (turnT rem k (linesC c))) = some ⟨c, m⟩ := by
    rw [e, parts_cons _ _ _ (by simp [hr]), parts_pads _ _ (fun x hx => hf x (List.mem_of_mem_drop hx)), parts_rems rem hr _ (fun x hx => hf x (List.mem_of_mem_take hx)), gud_sk _ (skipH2 rem), gud_app, gud_pads]
    have hlen : (itemsC c).length = 10 + c.flows.length := by simp [itemsC]
    have hd : (linesC c).drop k = ((itemsC c).drop k).map joinL ++ [[]] := by
      rw [hl, List.drop_append_of_le_length (by rw [List.length_map, hlen]; omega), List.map_drop]
    have ht : (linesC c).take k = ((itemsC c).take k).map joinL := by
      rw [hl, List.take_append_of_le_length (by rw [List.length_map, hlen]; omega), List.map_take]
    have hid : (itemsC c).drop k = ((List.range 10).drop k).map (hdW c) ++ c.flows.map flW := by
      unfold itemsC
      rw [List.drop_append_of_le_length (by simp; omega), List.map_drop]
    have hit : (itemsC c).take k = ((List.range 10).take k).map (hdW c) := by
      unfold itemsC
      rw [List.take_append_of_le_length (by simp; omega), List.map_take]
    rw [hd, ht, gud_app, gud_lines _ _ (fun ws hws => items_ok c h ws (List.mem_of_mem_drop hws))]
    rw [gudW_app, ← hid, ← hit] at hm
    cases hx : gudW ⟨zC, []⟩ ((itemsC c).drop k) with
    | none => rw [hx] at hm; cases hm
    | some s' =>
      rw [hx] at hm
      simp only [Option.bind_some] at hm ⊢
      have h2 : gud s' [[]] = some s' := by rw [gud_sk _ (by rfl)]; rfl
      rw [h2]
      simp only [Option.bind_some]
      rw [gud_app, gud_rems, gud_lines _ _ (fun ws hws => items_ok c h ws (List.mem_of_mem_take hws)), hm]
      simp only [Option.bind_some]
      rw [gud_sk _ (by rfl)]; rfl
  rw [readC_done hg]
  simp [h0]
end Go.Proofs.YtacgabagfdlpeaaGreatDoor
