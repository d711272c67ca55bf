/- Layer 24 in plain Lean: what is put is read as it was, whatever the order of its lines. -/
import Derived.Test.YtlaakhfgidjofaaGreatDoorMSnapNobodyF5
import Derived.Test.YtlaakhfgidjofaaGreatDoorMSnapNobodyF7
import Derived.Test.YtlaakhfgidjofaaGreatDoorMSnapNobodyF4
namespace Go.Proofs.YtlaakhfgidjofaaGreatDoor
set_option linter.unusedVariables false
set_option linter.unusedSimpArgs false
theorem blankD {c : UInt8} (h : isDig c = true) : blank c = false := by
  rw [isDig_iff] at h
  unfold blank
  simp only [Bool.or_eq_false_iff, beq_eq_false_iff_ne]
  omega
theorem putU_sign (n : Nat) : ∀ c ∈ putU n, isDig c = true ∨ c = 71 ∨ c = 77 ∨ c = 75 := by
  have h := fun m c hc => List.all_eq_true.1 (put_all m) c hc
  intro c hc
  unfold putU at hc
  split at hc
  · rcases List.mem_append.1 hc with hc | hc
    · exact .inl (h _ c hc)
    · simp at hc; exact .inr (.inl hc)
  · split at hc
    · rcases List.mem_append.1 hc with hc | hc
      · exact .inl (h _ c hc)
      · simp at hc; exact .inr (.inr (.inl hc))
    · split at hc
      · rcases List.mem_append.1 hc with hc | hc
        · exact .inl (h _ c hc)
        · simp at hc; exact .inr (.inr (.inr hc))
      · exact .inl (h _ c hc)
theorem putU_word (n : Nat) : isWord (putU n) := by
  refine ⟨?_, fun c hc => ?_⟩
  · unfold putU
    split
    · simp
    · split
      · simp
      · split
        · simp
        · exact put_ne n
  · rcases putU_sign n c hc with h | rfl | rfl | rfl
    · exact blankD h
    · rfl
    · rfl
    · rfl
theorem putU_free (n : Nat) : (10 : UInt8) ∉ putU n := fun hc => by
  rcases putU_sign n 10 hc with h | h | h | h
  · exact absurd h (by decide)
  · exact absurd h (by decide)
  · exact absurd h (by decide)
  · exact absurd h (by decide)
theorem numE_put (most n : Nat) (h : n < M64) (hm : n ≤ most) : numE most (putU n) = (n, 0) := by
  unfold numE
  rw [rdU_putU n h]
  simp only [ne_eq, not_true_eq_false, if_false]
  rw [if_neg (by omega)]
theorem stepL_skip (s : CS) {x : List UInt8} (h : skip x = true) : stepL s x = (s, 0) := by unfold stepL; rw [if_pos h]
theorem gud_app (s : CS) : ∀ (a b : List (List UInt8)), gud s (a ++ b) = (gud s a).bind fun s' => gud s' b
  | [], b => rfl
  | x :: a, b => by
    rw [List.cons_append, gud, gud]
    split
    · rfl
    · exact gud_app _ a b
def gudW (s : CS) : List (List (List UInt8)) → Option CS
  | [] => some s
  | l :: r => if (lineS s l).2 ≠ 0 then none else gudW (lineS s l).1 r
theorem gudW_app (s : CS) : ∀ (a b : List (List (List UInt8))), gudW s (a ++ b) = (gudW s a).bind fun s' => gudW s' b
  | [], b => rfl
  | x :: a, b => by
    rw [List.cons_append, gudW, gudW]
    split
    · rfl
    · exact gudW_app _ a b
def lineOk (ws : List (List UInt8)) : Prop := (∀ w ∈ ws, isWord w ∧ (10 : UInt8) ∉ w) ∧ ∃ w r, ws = w :: r ∧ (w.head? == some 35) = false
theorem gud_lines : ∀ (L : List (List (List UInt8))) (s : CS), (∀ ws ∈ L, lineOk ws) → gud s (L.map joinL) = gudW s L
  | [], s, _ => rfl
  | ws :: L, s, h => by
    obtain ⟨h1, w, r, e, h2⟩ := h ws (by simp)
    have hw := words_join ws (fun w hw => (h1 w hw).1)
    have hs : stepL s (joinL ws) = lineS s ws := by
      unfold stepL skip
      rw [hw]
      subst e
      simp only [h2, Bool.false_eq_true, if_false]
    rw [List.map_cons, gud, gudW, hs]
    split
    · rfl
    · exact gud_lines L _ (fun ws hws => h ws (by simp [hws]))
theorem joinL_free : ∀ (ws : List (List UInt8)), (∀ w ∈ ws, (10 : UInt8) ∉ w) → (10 : UInt8) ∉ joinL ws
  | [], _ => by simp [joinL]
  | [w], h => by simpa [joinL] using h w (by simp)
  | w :: v :: r, h => by
    have := joinL_free (v :: r) (fun x hx => h x (by simp only [List.mem_cons] at hx ⊢; exact .inr hx))
    unfold joinL
    simp only [List.mem_append, List.mem_cons, not_or]
    exact ⟨h w (by simp), by decide, this⟩
theorem parts_lines : ∀ (L : List (List (List UInt8))), (∀ ws ∈ L, lineOk ws) → parts 10 (L.flatMap fun l => joinL l ++ [10]) = L.map joinL ++ [[]]
  | [], _ => rfl
  | ws :: L, h => by
    have hf := joinL_free ws (fun w hw => ((h ws (by simp)).1 w hw).2)
    rw [List.flatMap_cons, List.append_assoc, List.singleton_append, parts_cons _ _ _ hf, parts_lines L (fun x hx => h x (by simp [hx]))]; rfl
theorem wordN_ok (c : CfR) (h : ChkOk c) (i : Nat) : isWord (wordN c i) ∧ (10 : UInt8) ∉ wordN c i := by
  obtain ⟨p0, p1, -⟩ := h
  unfold wordN
  split
  · have : c.rank.toNat - 1 = 0 ∨ c.rank.toNat - 1 = 1 ∨ c.rank.toNat - 1 = 2 := by omega
    rcases this with e | e | e <;> rw [e] <;> exact ⟨⟨by decide, by decide⟩, by decide⟩
  · split
    · have : c.back.toNat - 1 = 0 ∨ c.back.toNat - 1 = 1 ∨ c.back.toNat - 1 = 2 := by omega
      rcases this with e | e | e <;> rw [e] <;> exact ⟨⟨by decide, by decide⟩, by decide⟩
    · exact ⟨putU_word _, putU_free _⟩
theorem nms_ok : ∀ i, i < 11 → (isWord (nms.getD i []) ∧ (10 : UInt8) ∉ nms.getD i []) ∧ ((nms.getD i []).head? == some 35) = false := by
  intro i hi
  have : i = 0 ∨ i = 1 ∨ i = 2 ∨ i = 3 ∨ i = 4 ∨ i = 5 ∨ i = 6 ∨ i = 7 ∨ i = 8 ∨ i = 9 ∨ i = 10 := by omega
  rcases this with rfl | rfl | rfl | rfl | rfl | rfl | rfl | rfl | rfl | rfl | rfl <;> exact ⟨⟨⟨by decide, by decide⟩, by decide⟩, by decide⟩
theorem hdW_ok (c : CfR) (h : ChkOk c) (i : Nat) (hi : i < 10) : lineOk (hdW c i) := by
  refine ⟨fun w hw => ?_, _, _, rfl, (nms_ok i (by omega)).2⟩
  unfold hdW at hw
  simp only [List.mem_cons, List.not_mem_nil, or_false] at hw
  rcases hw with rfl | rfl
  · exact (nms_ok i (by omega)).1
  · exact wordN_ok c h i
theorem flW_ok (f : FlR) : lineOk (flW f) := by
  refine ⟨fun w hw => ?_, _, _, rfl, (nms_ok 10 (by omega)).2⟩
  unfold flW at hw
  simp only [List.mem_cons, List.not_mem_nil, or_false] at hw
  rcases hw with rfl | rfl | rfl | rfl | rfl | rfl
  · exact (nms_ok 10 (by omega)).1
  all_goals exact ⟨putU_word _, putU_free _⟩
theorem plc_nms : ∀ i, i < 11 → plc nms (nms.getD i []) = i := by
  intro i hi
  have : i = 0 ∨ i = 1 ∨ i = 2 ∨ i = 3 ∨ i = 4 ∨ i = 5 ∨ i = 6 ∨ i = 7 ∨ i = 8 ∨ i = 9 ∨ i = 10 := by omega
  rcases this with rfl | rfl | rfl | rfl | rfl | rfl | rfl | rfl | rfl | rfl | rfl <;> decide
theorem kindR : ∀ m, m < 3 → kindN krs (krs.getD m []) = m + 1 := by
  intro m hm
  have : m = 0 ∨ m = 1 ∨ m = 2 := by omega
  rcases this with rfl | rfl | rfl <;> decide
theorem kindB : ∀ m, m < 3 → kindN kbs (kbs.getD m []) = m + 1 := by
  intro m hm
  have : m = 0 ∨ m = 1 ∨ m = 2 := by omega
  rcases this with rfl | rfl | rfl <;> decide
theorem say_hd (c : CfR) (hc : c.ok) (h : ChkOk c) (i : Nat) (hi : i < 10) : sayE i (wordN c i) = (valN c i, 0) := by
  obtain ⟨p0, p1, p2, p3, p4, p6, p10⟩ := h
  have b5 := hc.bytes; have b7 := hc.mtu; have b8 := hc.rate; have b9 := hc.burst
  have h2 : c.levels.toNat < M64 := by unfold M64; omega
  have h3 : c.queues.toNat < M64 := by unfold M64; omega
  have h4 : c.packets.toNat < M64 := by unfold M64; omega
  have h6 : c.share.toNat < M64 := by unfold M64; omega
  have : i = 0 ∨ i = 1 ∨ i = 2 ∨ i = 3 ∨ i = 4 ∨ i = 5 ∨ i = 6 ∨ i = 7 ∨ i = 8 ∨ i = 9 := by omega
  rcases this with rfl | rfl | rfl | rfl | rfl | rfl | rfl | rfl | rfl | rfl
  · have e := kindR (c.rank.toNat - 1) (by omega)
    have e2 : c.rank.toNat - 1 + 1 = c.rank.toNat := by omega
    rw [e2] at e
    show ((kindN krs (krs.getD (c.rank.toNat - 1) [])), if kindN krs (krs.getD (c.rank.toNat - 1) []) = 0 then (22 : Int) else 0) = _
    rw [e, if_neg (by omega)]; rfl
  · have e := kindB (c.back.toNat - 1) (by omega)
    have e2 : c.back.toNat - 1 + 1 = c.back.toNat := by omega
    rw [e2] at e
    show ((kindN kbs (kbs.getD (c.back.toNat - 1) [])), if kindN kbs (kbs.getD (c.back.toNat - 1) []) = 0 then (22 : Int) else 0) = _
    rw [e, if_neg (by omega)]; rfl
  · exact numE_put 2147483647 _ h2 (by show c.levels.toNat ≤ _; omega)
  · exact numE_put 2147483647 _ h3 (by show c.queues.toNat ≤ _; omega)
  · exact numE_put 2147483647 _ h4 (by show c.packets.toNat ≤ _; omega)
  · exact numE_put 18446744073709551615 _ b5 (by unfold M64 at b5; show c.bytes ≤ _; omega)
  · exact numE_put 2147483647 _ h6 (by show c.share.toNat ≤ _; omega)
  · exact numE_put 18446744073709551615 _ b7 (by unfold M64 at b7; show c.mtu ≤ _; omega)
  · exact numE_put 18446744073709551615 _ b8 (by unfold M64 at b8; show c.rate ≤ _; omega)
  · exact numE_put 18446744073709551615 _ b9 (by unfold M64 at b9; show c.burst ≤ _; omega)
theorem line_at {s : CS} {ws : List (List UInt8)} {p : Nat} (hp : plc nms (ws.headD []) = p) : lineS s ws = (if p = 11 ∨ ws.length ≠ (if p = 10 then 6 else 2) ∨ (p < 10 ∧ p ∈ s.met) then (s, 31)
    else if p = 10 then (if flE 0 ws.tail ≠ 0 then (s, flE 0 ws.tail) else (⟨{ s.c with flows := s.c.flows ++ [flV ws.tail] }, s.met ++ [10]⟩, 0))
    else if (sayE p (ws.getD 1 [])).2 ≠ 0 then (s, (sayE p (ws.getD 1 [])).2) else (⟨setAt s.c p (sayE p (ws.getD 1 [])).1, s.met ++ [p]⟩, 0)) := by
  subst hp; rfl
theorem step_hd (c : CfR) (hc : c.ok) (h : ChkOk c) (s : CS) (i : Nat) (hi : i < 10) (hm : i ∉ s.met) : lineS s (hdW c i) = (⟨setAt s.c i (valN c i), s.met ++ [i]⟩, 0) := by
  have hp : plc nms ((hdW c i).headD []) = i := plc_nms i (by omega)
  have hs : sayE i ((hdW c i).getD 1 []) = (valN c i, 0) := say_hd c hc h i hi
  have hl : (hdW c i).length = 2 := rfl
  rw [line_at hp, hs, hl, if_neg, if_neg (by omega), if_neg (by simp)]
  rintro (h1 | h1 | h1)
  · omega
  · rw [if_neg (by omega)] at h1; exact h1 rfl
  · exact hm h1.2
theorem flE_put (f : FlR) (hf : f.ok) : flE 0 [putU f.id, putU f.cost, putU f.budget, putU f.size, putU f.cap] = 0 := by
  obtain ⟨g0, g1, g2, g3, g4⟩ := hf
  have e0 := numE_put 4294967295 f.id (by unfold M64; omega) (by omega)
  have e1 := numE_put 18446744073709551615 f.cost g1 (by omega)
  have e2 := numE_put 18446744073709551615 f.budget g2 (by omega)
  have e3 := numE_put 18446744073709551615 f.size g3 (by omega)
  have e4 := numE_put 18446744073709551615 f.cap g4 (by omega)
  simp [flE, mostF, e0, e1, e2, e3, e4]
theorem flV_put (f : FlR) (hf : f.ok) : flV [putU f.id, putU f.cost, putU f.budget, putU f.size, putU f.cap] = f := by
  obtain ⟨g0, g1, g2, g3, g4⟩ := hf
  have e0 := rdU_putU f.id (by unfold M64; omega)
  have e1 := rdU_putU f.cost g1
  have e2 := rdU_putU f.budget g2
  have e3 := rdU_putU f.size g3
  have e4 := rdU_putU f.cap g4
  simp [flV, e0, e1, e2, e3, e4]
theorem step_fl (s : CS) (f : FlR) (hf : f.ok) : lineS s (flW f) = (⟨{ s.c with flows := s.c.flows ++ [f] }, s.met ++ [10]⟩, 0) := by
  have hp : plc nms ((flW f).headD []) = 10 := plc_nms 10 (by omega)
  have he : flE 0 (flW f).tail = 0 := flE_put f hf
  have hv : flV (flW f).tail = f := flV_put f hf
  have hl : (flW f).length = 6 := rfl
  rw [line_at hp, he, hv, hl, if_neg (by simp), if_pos rfl, if_neg (by simp)]
theorem gud_hds (c : CfR) (hc : c.ok) (h : ChkOk c) : ∀ (l : List Nat) (s : CS), (∀ i ∈ l, i < 10) → l.Nodup → (∀ i ∈ l, i ∉ s.met) →
    gudW s (l.map (hdW c)) = some ⟨l.foldl (fun d i => setAt d i (valN c i)) s.c, s.met ++ l⟩
  | [], s, _, _, _ => by simp [gudW]
  | i :: l, s, h1, h2, h3 => by
    simp only [List.nodup_cons] at h2
    have hst := step_hd c hc h s i (h1 i (by simp)) (h3 i (by simp))
    rw [List.map_cons, gudW, hst]
    simp only [ne_eq, not_true_eq_false, if_false]
    rw [gud_hds c hc h l _ (fun j hj => h1 j (by simp [hj])) h2.2 (fun j hj => by
      have h4 := h3 j (by simp [hj])
      simp only [List.mem_append, List.mem_singleton, not_or]
      exact ⟨h4, fun e => h2.1 (by rw [← e]; exact hj)⟩)]
    simp
theorem gud_fls : ∀ (l : List FlR) (s : CS), (∀ f ∈ l, f.ok) → gudW s (l.map flW) = some ⟨{ s.c with flows := s.c.flows ++ l }, s.met ++ List.replicate l.length 10⟩
  | [], s, _ => by simp [gudW]
  | f :: l, s, h => by
    have hst := step_fl s f (h f (by simp))
    rw [List.map_cons, gudW, hst]
    simp only [ne_eq, not_true_eq_false, if_false]
    rw [gud_fls l _ (fun g hg => h g (by simp [hg]))]
    simp [List.replicate_succ]
theorem turn_c (c : CfR) (h : ChkOk c) (k : Nat) (hk : k ≤ 10) :
    ((List.range 10).take k).foldl (fun d i => setAt d i (valN c i)) { ((List.range 10).drop k).foldl (fun d i => setAt d i (valN c i)) zC with flows := c.flows } = c := by
  obtain ⟨p0, p1, p2, p3, p4, p6, p10⟩ := h
  obtain ⟨rk, bk, lv, qu, pk, bt, sh, mt, rt, bu, fl⟩ := c
  simp only at p0 p1 p2 p3 p4 p6
  have e0 : (rk.toNat : Int) = rk := by omega
  have e1 : (bk.toNat : Int) = bk := by omega
  have e2 : (lv.toNat : Int) = lv := by omega
  have e3 : (qu.toNat : Int) = qu := by omega
  have e4 : (pk.toNat : Int) = pk := by omega
  have e6 : (sh.toNat : Int) = sh := by omega
  have : k = 0 ∨ k = 1 ∨ k = 2 ∨ k = 3 ∨ k = 4 ∨ k = 5 ∨ k = 6 ∨ k = 7 ∨ k = 8 ∨ k = 9 ∨ k = 10 := by omega
  rcases this with rfl | rfl | rfl | rfl | rfl | rfl | rfl | rfl | rfl | rfl | rfl <;>
    (show CfR.mk (rk.toNat : Int) (bk.toNat : Int) (lv.toNat : Int) (qu.toNat : Int) (pk.toNat : Int) bt (sh.toNat : Int) mt rt bu fl = _; rw [e0, e1, e2, e3, e4, e6])
theorem turn_gud (c : CfR) (hc : c.ok) (h : ChkOk c) (k : Nat) (hk : k ≤ 10) :
    ∃ m, gudW ⟨zC, []⟩ ((((List.range 10).drop k).map (hdW c) ++ c.flows.map flW) ++ ((List.range 10).take k).map (hdW c)) = some ⟨c, m⟩ := by
  have hn : (List.range 10).Nodup := List.nodup_range
  have hta : (List.range 10).take k ++ (List.range 10).drop k = List.range 10 := List.take_append_drop _ _
  rw [← hta, List.nodup_append] at hn
  have hlt : ∀ i ∈ List.range 10, i < 10 := fun i hi => List.mem_range.1 hi
  rw [gudW_app, gudW_app, gud_hds c hc h _ _ (fun i hi => hlt i (List.mem_of_mem_drop hi)) hn.2.1 (fun i _ hm => by cases hm)]
  simp only [Option.bind_some]
  rw [gud_fls _ _ hc.flows]
  simp only [Option.bind_some]
  rw [gud_hds c hc h _ _ (fun i hi => hlt i (List.mem_of_mem_take hi)) hn.1 (fun i hi hm => by
    simp only [List.nil_append, List.mem_append] at hm
    rcases hm with hm | hm
    · exact hn.2.2 i hi i hm rfl
    · have := List.eq_of_mem_replicate hm
      have := hlt i (List.mem_of_mem_take hi)
      omega)]
  refine ⟨[] ++ (List.range 10).drop k ++ List.replicate c.flows.length 10 ++ (List.range 10).take k, ?_⟩
  have hz : (((List.range 10).drop k).foldl (fun d i => setAt d i (valN c i)) zC).flows = [] := by
    have : k = 0 ∨ k = 1 ∨ k = 2 ∨ k = 3 ∨ k = 4 ∨ k = 5 ∨ k = 6 ∨ k = 7 ∨ k = 8 ∨ k = 9 ∨ k = 10 := by omega
    rcases this with rfl | rfl | rfl | rfl | rfl | rfl | rfl | rfl | rfl | rfl | rfl <;> rfl
  simp only [hz, List.nil_append]
  rw [turn_c c h k hk]
theorem items_ok (c : CfR) (h : ChkOk c) : ∀ ws ∈ itemsC c, lineOk ws := by
  intro ws hws
  rcases List.mem_append.1 hws with hws | hws
  · obtain ⟨i, hi, rfl⟩ := List.mem_map.1 hws
    exact hdW_ok c h i (List.mem_range.1 hi)
  · obtain ⟨f, _, rfl⟩ := List.mem_map.1 hws
    exact flW_ok f
theorem read_put (c : CfR) (hc : c.ok) (h0 : chk c = 0) : readC (textC c) = (c, 0, 0) := by
  have h := chk_ok h0
  have hp := parts_lines (itemsC c) (items_ok c h)
  obtain ⟨m, hm⟩ := turn_gud c hc h 0 (by omega)
  have hg : gud ⟨zC, []⟩ (parts 10 (textC c)) = some ⟨c, m⟩ := by
    unfold textC
    rw [hp, gud_app, gud_lines _ _ (items_ok c h)]
    have e : itemsC c = (((List.range 10).drop 0).map (hdW c) ++ c.flows.map flW) ++ ((List.range 10).take 0).map (hdW c) := by simp [itemsC]
    rw [e, hm]; rfl
  rw [readC_done hg]
  simp [h0]
end Go.Proofs.YtlaakhfgidjofaaGreatDoor

namespace Go.Proofs.YtlaakhfgidjofaaGreatDoor
set_option linter.unusedVariables false
set_option linter.unusedSimpArgs false
open Go Go.RowKit Go.Shelf
def stopP (e : Int) : List PanicEntry := [{ v := .iface 231 (.agg #[.int .i64 e]), recovered := false }]
set_option maxHeartbeats 2000000 in
theorem cWrong (x : Int) (w : World) : Calls Tryz.prog 144 #[.int .i64 x] w fun e w' => e = .panicked (stopP x) ∧ w = w' := by
  unfold stopP
  go_enter Tryz.func144, Tryz.ntmps144
  go_wp2
  all_goals exact ⟨rfl, rfl, rfl⟩
theorem numE_bad1 {most : Nat} {l : List UInt8} (h : (rdU l).2 ≠ 0) : numE most l = (0, (rdU l).2) := by unfold numE; rw [if_pos h]
theorem numE_bad2 {most : Nat} {l : List UInt8} (h : (rdU l).2 = 0) (h2 : most < (rdU l).1) : numE most l = (0, 5) := by unfold numE; rw [if_neg (by simp [h]), if_pos h2]
theorem numE_good {most : Nat} {l : List UInt8} (h : (rdU l).2 = 0) (h2 : ¬ most < (rdU l).1) : numE most l = ((rdU l).1, 0) := by unfold numE; rw [if_neg (by simp [h]), if_neg h2]
theorem numE_le (most : Nat) (l : List UInt8) : (numE most l).1 ≤ most := by
  unfold numE
  split
  · exact Nat.zero_le _
  · split
    · exact Nat.zero_le _
    · simp only; omega
set_option maxHeartbeats 2000000 in
theorem cNumOk (s : ByteArray) (hs : s.size ≤ 1000000) (most n : Nat) (h : numE most (bl s) = (n, 0)) (w : World) : Calls Tryz.prog 147 #[.string s, .int .u64 most] w fun e w' => e = .returned (.int .u64 n) ∧ Kp none' w w' := by
  have HR := Lib.hid (dReadUnit s w hs)
  have h0 : (rdU (bl s)).2 = 0 := by
    by_cases h0 : (rdU (bl s)).2 = 0
    · exact h0
    · rw [numE_bad1 h0] at h; exact absurd (Prod.mk.inj h).2 h0
  have h1 : ¬ most < (rdU (bl s)).1 := fun h1 => by rw [numE_bad2 h0 h1] at h; exact absurd (Prod.mk.inj h).2 (by decide)
  rw [numE_good h0 h1] at h
  have hn := (Prod.mk.inj h).1
  rw [h0, hn] at HR
  rw [hn] at h1
  have hi : ¬ (most : Int) < n := by omega
  clear h h0 h1 hn
  go_enter Tryz.func147, Tryz.ntmps147
  go_wp2_with fail
  refine (HR.out).mono ?_
  rintro e w1 ⟨rfl, k1⟩
  have HK := Lib.hid (kp_of_drew k1)
  clear k1 HR
  go_wp2
  go_ret
  exact ⟨rfl, HK.out⟩
set_option maxHeartbeats 2000000 in
theorem cNumBad (s : ByteArray) (hs : s.size ≤ 1000000) (most n : Nat) (x : Int) (h : numE most (bl s) = (n, x)) (hx : x ≠ 0) (w : World) : Calls Tryz.prog 147 #[.string s, .int .u64 most] w fun e w' => e = .panicked (stopP x) ∧ Kp none' w w' := by
  have HR := Lib.hid (dReadUnit s w hs)
  have HW := Lib.hid (fun W => cWrong x W)
  by_cases h0 : (rdU (bl s)).2 = 0
  · by_cases h1 : most < (rdU (bl s)).1
    · rw [numE_bad2 h0 h1] at h
      have h2 := (Prod.mk.inj h).2
      subst h2
      obtain ⟨m, hm⟩ : ∃ m, (rdU (bl s)).1 = m := ⟨_, rfl⟩
      rw [h0, hm] at HR
      rw [hm] at h1
      have hi : (most : Int) < m := by omega
      clear h h0 h1 hm
      go_enter Tryz.func147, Tryz.ntmps147
      go_wp2_with fail
      refine (HR.out).mono ?_
      rintro e w1 ⟨rfl, k1⟩
      have HK := Lib.hid (kp_of_drew k1)
      clear k1 HR
      go_wp2_with fail
      refine (HW.out _).mono ?_
      rintro e w2 ⟨rfl, rfl⟩
      exact ⟨rfl, rfl, HK.out⟩
    · rw [numE_good h0 h1] at h
      exact absurd (Prod.mk.inj h).2.symm hx
  · rw [numE_bad1 h0] at h
    have h2 := (Prod.mk.inj h).2
    rw [h2] at HR
    have hb : (x != 0) = true := by simpa using hx
    clear h h0 h2
    go_enter Tryz.func147, Tryz.ntmps147
    go_wp2_with fail
    refine (HR.out).mono ?_
    rintro e w1 ⟨rfl, k1⟩
    have HK := Lib.hid (kp_of_drew k1)
    clear k1 HR
    go_wp2_with fail
    refine (HW.out _).mono ?_
    rintro e w2 ⟨rfl, rfl⟩
    exact ⟨rfl, rfl, HK.out⟩
set_option maxHeartbeats 2000000 in
theorem cCntOk (s : ByteArray) (hs : s.size ≤ 1000000) (n : Nat) (h : numE 2147483647 (bl s) = (n, 0)) (w : World) : Calls Tryz.prog 146 #[.string s] w fun e w' => e = .returned (.int .i64 n) ∧ Kp none' w w' := by
  have HR := Lib.hid (cNumOk s hs 2147483647 n h w)
  have hle := numE_le 2147483647 (bl s)
  rw [h] at hle
  have hw : IntKind.i64.wrap (n : Int) = n := IntWalk.i64_in _ (by simp only at hle; omega)
  clear h hle
  go_enter Tryz.func146, Tryz.ntmps146
  go_wp2_with fail
  refine (HR.out).mono ?_
  rintro e w1 ⟨rfl, k1⟩
  have HK := Lib.hid k1
  clear k1 HR
  go_wp2
  go_ret
  exact ⟨rfl, HK.out⟩
set_option maxHeartbeats 2000000 in
theorem cCntBad (s : ByteArray) (hs : s.size ≤ 1000000) (n : Nat) (x : Int) (h : numE 2147483647 (bl s) = (n, x)) (hx : x ≠ 0) (w : World) : Calls Tryz.prog 146 #[.string s] w fun e w' => e = .panicked (stopP x) ∧ Kp none' w w' := by
  have HR := Lib.hid (cNumBad s hs 2147483647 n x h hx w)
  clear h
  go_enter Tryz.func146, Tryz.ntmps146
  go_wp2_with fail
  refine (HR.out).mono ?_
  rintro e w1 ⟨rfl, k1⟩
  exact ⟨rfl, rfl, k1⟩
theorem kind_at {l : List (List UInt8)} {w : List UInt8} (k : Nat) (h : k < l.length) (e : w = l[k]) (hl : ∀ (j : Nat) (hj : j < l.length), j < k → w ≠ l[j]) : kindN l w = k + 1 := by
  have := plc_at w l k h e hl
  unfold kindN
  rw [this, if_neg (by omega)]
theorem kind_no {l : List (List UInt8)} {w : List UInt8} (hl : ∀ (j : Nat) (hj : j < l.length), w ≠ l[j]) : kindN l w = 0 := by
  unfold kindN
  rw [plc_no w l hl, if_pos rfl]
set_option maxHeartbeats 4000000 in
theorem cKind (s n0 n1 n2 : ByteArray) (k : Nat) (hk : kindN [bl n0, bl n1, bl n2] (bl s) = k) (w : World) (g : Nat) (hb : Blk w g [.string n0, .string n1, .string n2] 9) :
    Calls Tryz.prog 145 #[.string s, .slice (some ⟨g, 0, none⟩) 3 3] w fun e w' => (if k = 0 then e = .panicked (stopP 22) else e = .returned (.int .i64 k)) ∧ Kp none' w w' := by
  have HW := Lib.hid (fun W => cWrong 22 W)
  have c0 := hb.cell 0 rfl; have c1 := hb.cell 1 rfl; have c2 := hb.cell 2 rfl
  have HE : Hid ((∀ _ : s = n0, k = 1) ∧ (∀ (_ : s ≠ n0) (_ : s = n1), k = 2) ∧ (∀ (_ : s ≠ n0) (_ : s ≠ n1) (_ : s = n2), k = 3) ∧ (∀ (_ : s ≠ n0) (_ : s ≠ n1) (_ : s ≠ n2), k = 0)) := by
    have hne : ∀ {a b : ByteArray}, a ≠ b → bl a ≠ bl b := fun h e => h (str_ext e)
    refine ⟨fun e => ?_, fun e0 e => ?_, fun e0 e1 e => ?_, fun e0 e1 e2 => ?_⟩
    · rw [← hk, kind_at 0 (by simp) (by simp [e]) (fun j hj h => by omega)]
    · rw [← hk, kind_at 1 (by simp) (by simp [e]) (fun j hj h => by
        have : j = 0 := by omega
        subst this; simpa using hne e0)]
    · rw [← hk, kind_at 2 (by simp) (by simp [e]) (fun j hj h => by
        have : j = 0 ∨ j = 1 := by omega
        rcases this with rfl | rfl
        · simpa using hne e0
        · simpa using hne e1)]
    · rw [← hk, kind_no (fun j hj => by
        have : j = 0 ∨ j = 1 ∨ j = 2 := by simp at hj; omega
        rcases this with rfl | rfl | rfl
        · simpa using hne e0
        · simpa using hne e1
        · simpa using hne e2)]
  clear hk hb
  go_enter Tryz.func145, Tryz.ntmps145
  go_wp2
  go_loopw [9] (fun i0 wr => ∃ j : Nat, i0 = .int .i64 j ∧ j ≤ 3 ∧ Hid ((0 < j → s ≠ n0) ∧ (1 < j → s ≠ n1) ∧ (2 < j → s ≠ n2)) ∧ wr = w) (fun i0 _ => 3 - (intOf i0).toNat)
  case atStart => exact ⟨0, rfl, by omega, ⟨fun h => by omega, fun h => by omega, fun h => by omega⟩, rfl⟩
  case round =>
    obtain ⟨j, rfl, hj, HJ, rfl⟩ := hrel
    have hj4 : j = 0 ∨ j = 1 ∨ j = 2 ∨ j = 3 := by omega
    rcases hj4 with rfl | rfl | rfl | rfl
    · by_cases e : s = n0
      · have hk := HE.out.1 e
        have hse := str_beq e
        subst hk
        go_wp2
        go_ret
        exact ⟨rfl, Kp.refl _ _⟩
      · have hse := str_bne e
        have HE0 := Lib.hid e
        clear e
        go_wp2
        go_roundw
        case rel => exact ⟨1, by go_num, by omega, ⟨fun _ => HE0.out, fun h => by omega, fun h => by omega⟩, trivial⟩
        case measure => simp [intOf]
    · by_cases e : s = n1
      · have hk := HE.out.2.1 (HJ.out.1 (by omega)) e
        have hse := str_beq e
        subst hk
        go_wp2
        go_ret
        exact ⟨rfl, Kp.refl _ _⟩
      · have hse := str_bne e
        have HE0 := Lib.hid e
        clear e
        go_wp2
        go_roundw
        case rel => exact ⟨2, by go_num, by omega, ⟨fun _ => HJ.out.1 (by omega), fun _ => HE0.out, fun h => by omega⟩, trivial⟩
        case measure => simp [intOf]
    · by_cases e : s = n2
      · have hk := HE.out.2.2.1 (HJ.out.1 (by omega)) (HJ.out.2.1 (by omega)) e
        have hse := str_beq e
        subst hk
        go_wp2
        go_ret
        exact ⟨rfl, Kp.refl _ _⟩
      · have hse := str_bne e
        have HE0 := Lib.hid e
        clear e
        go_wp2
        go_roundw
        case rel => exact ⟨3, by go_num, by omega, ⟨fun _ => HJ.out.1 (by omega), fun _ => HJ.out.2.1 (by omega), fun _ => HE0.out⟩, trivial⟩
        case measure => simp [intOf]
    · have hk := HE.out.2.2.2 (HJ.out.1 (by omega)) (HJ.out.2.1 (by omega)) (HJ.out.2.2 (by omega))
      subst hk
      go_wp2_with fail
      refine (HW.out _).mono ?_
      rintro e w2 ⟨rfl, rfl⟩
      exact ⟨rfl, rfl, Kp.refl _ _⟩
end Go.Proofs.YtlaakhfgidjofaaGreatDoor
