/- Configurations (layer 24) in plain Lean: which may be, what their texts are, what texts say. -/
import Derived.Test.YtacgabagfdlpeaaGreatDoorJoinP
import Derived.Test.YtacgabagfdlpeaaGreatDoorDigP
import Derived.Test.YtacgabagfdlpeaaGreatDoorFlo
namespace Go.Proofs.YtacgabagfdlpeaaGreatDoor
set_option linter.unusedVariables false
set_option linter.unusedSimpArgs false

structure CfR where
  rank : Int
  back : Int
  levels : Int
  queues : Int
  packets : Int
  bytes : Nat
  share : Int
  mtu : Nat
  rate : Nat
  burst : Nat
  flows : List FlR
structure CfR.ok (c : CfR) : Prop where
  rank : -9223372036854775808 ≤ c.rank ∧ c.rank ≤ 9223372036854775807
  back : -9223372036854775808 ≤ c.back ∧ c.back ≤ 9223372036854775807
  levels : -9223372036854775808 ≤ c.levels ∧ c.levels ≤ 9223372036854775807
  queues : -9223372036854775808 ≤ c.queues ∧ c.queues ≤ 9223372036854775807
  packets : -9223372036854775808 ≤ c.packets ∧ c.packets ≤ 9223372036854775807
  bytes : c.bytes < M64
  share : -9223372036854775808 ≤ c.share ∧ c.share ≤ 9223372036854775807
  mtu : c.mtu < M64
  rate : c.rate < M64
  burst : c.burst < M64
  flows : ∀ f ∈ c.flows, f.ok
def zC : CfR := ⟨0, 0, 0, 0, 0, 0, 0, 0, 0, 0, []⟩
/-- Why flows may not be. -/
def flowsE (l : List FlR) : Int := if l.length = 0 ∨ 64 < l.length then 29 else if (l.map (·.id)).Nodup then 0 else 30
def admE (c : CfR) : Int :=
  if c.packets < 1 ∨ 4096 < c.packets ∨ c.bytes = 0 ∨ c.share < 0 ∨ 16 < c.share then 25
  else if 18446744073709551615 / 2 ^ c.share.toNat < c.bytes then 25 else if c.mtu < 1 ∨ 65535 < c.mtu then 26 else flowsE c.flows
/-- Why a configuration may not be. -/
def chk (c : CfR) : Int :=
  if c.rank < 1 ∨ 3 < c.rank ∨ c.back < 1 ∨ 3 < c.back then 22 else if c.levels < 1 ∨ 3 < c.levels then 23 else if c.queues < 1 ∨ 32 < c.queues then 24
  else if admE c ≠ 0 then admE c else if c.rate = 0 then 27 else if c.burst < c.mtu then 28 else 0

/-- The lines' names; flow is the last one. -/
def nms : List (List UInt8) := [[114, 97, 110, 107], [98, 97, 99, 107], [108, 101, 118, 101, 108, 115], [113, 117, 101, 117, 101, 115], [112, 97, 99, 107, 101, 116, 115], [98, 121, 116, 101, 115], [115, 104, 97, 114, 101], [109, 116, 117], [114, 97, 116, 101], [98, 117, 114, 115, 116], [102, 108, 111, 119]]
def krs : List (List UInt8) := [[115, 116, 102, 113], [101, 100, 102], [115, 114, 115]]
def kbs : List (List UInt8) := [[104, 101, 97, 112], [99, 97, 108, 101, 110, 100, 97, 114], [113, 117, 101, 117, 101, 115]]
/-- A word's place in a list; how many there are, if it is none of them. -/
def plc (l : List (List UInt8)) (w : List UInt8) : Nat := match l with | [] => 0 | x :: r => if w = x then 0 else plc r w + 1
theorem plc_le (w : List UInt8) : ∀ l : List (List UInt8), plc l w ≤ l.length
  | [] => by simp [plc]
  | x :: r => by
    unfold plc
    split
    · exact Nat.zero_le _
    · have := plc_le w r; simp; omega
theorem plc_at (w : List UInt8) : ∀ (l : List (List UInt8)) (k : Nat) (h : k < l.length), w = l[k] → (∀ (j : Nat) (hj : j < l.length), j < k → w ≠ l[j]) → plc l w = k
  | x :: r, 0, _, e, _ => by unfold plc; rw [if_pos (by simpa using e)]
  | x :: r, k + 1, h, e, hl => by
    have h0 : w ≠ x := hl 0 (by simp) (by omega)
    unfold plc
    rw [if_neg h0, plc_at w r k (by simpa using h) (by simpa using e) (fun j hj hjk => by have := hl (j + 1) (by simp; omega) (by omega); simpa using this)]
theorem plc_no (w : List UInt8) : ∀ (l : List (List UInt8)), (∀ (j : Nat) (hj : j < l.length), w ≠ l[j]) → plc l w = l.length
  | [], _ => rfl
  | x :: r, hl => by
    unfold plc
    have h0 : w ≠ x := hl 0 (by simp)
    rw [if_neg h0, plc_no w r (fun j hj => by have := hl (j + 1) (by simp; omega); simpa using this)]; rfl
def kindN (l : List (List UInt8)) (w : List UInt8) : Nat := if plc l w = l.length then 0 else plc l w + 1

def numE (most : Nat) (w : List UInt8) : Nat × Int := if (rdU w).2 ≠ 0 then (0, (rdU w).2) else if most < (rdU w).1 then (0, 5) else ((rdU w).1, 0)
def mostN (at_ : Nat) : Nat := if at_ = 2 ∨ at_ = 3 ∨ at_ = 4 ∨ at_ = 6 then 2147483647 else 18446744073709551615
def setAt (c : CfR) (at_ n : Nat) : CfR :=
  match at_ with
  | 0 => { c with rank := n } | 1 => { c with back := n } | 2 => { c with levels := n } | 3 => { c with queues := n } | 4 => { c with packets := n }
  | 5 => { c with bytes := n } | 6 => { c with share := n } | 7 => { c with mtu := n } | 8 => { c with rate := n } | _ => { c with burst := n }
/-- What a line's one word says. -/
def sayE (at_ : Nat) (w : List UInt8) : Nat × Int :=
  if at_ = 0 then (kindN krs w, if kindN krs w = 0 then 22 else 0) else if at_ = 1 then (kindN kbs w, if kindN kbs w = 0 then 22 else 0) else numE (mostN at_) w
def mostF (i : Nat) : Nat := if i = 0 then 4294967295 else 18446744073709551615
/-- The error of a flow's words. -/
def flE : Nat → List (List UInt8) → Int
  | _, [] => 0
  | i, w :: r => if (numE (mostF i) w).2 ≠ 0 then (numE (mostF i) w).2 else flE (i + 1) r
def flV (l : List (List UInt8)) : FlR := ⟨(rdU (l.getD 0 [])).1, (rdU (l.getD 1 [])).1, (rdU (l.getD 2 [])).1, (rdU (l.getD 3 [])).1, (rdU (l.getD 4 [])).1⟩
/-- What was said, and which names were. -/
structure CS where
  c : CfR
  met : List Nat
/-- Behind a line of words; why it is wrong. -/
def lineS (s : CS) (ws : List (List UInt8)) : CS × Int :=
  if plc nms (ws.headD []) = 11 ∨ ws.length ≠ (if plc nms (ws.headD []) = 10 then 6 else 2) ∨ (plc nms (ws.headD []) < 10 ∧ plc nms (ws.headD []) ∈ s.met) then (s, 31)
  else if plc nms (ws.headD []) = 10 then (if flE 0 ws.tail ≠ 0 then (s, flE 0 ws.tail) else (⟨{ s.c with flows := s.c.flows ++ [flV ws.tail] }, s.met ++ [10]⟩, 0))
  else if (sayE (plc nms (ws.headD [])) (ws.getD 1 [])).2 ≠ 0 then (s, (sayE (plc nms (ws.headD [])) (ws.getD 1 [])).2)
  else (⟨setAt s.c (plc nms (ws.headD [])) (sayE (plc nms (ws.headD [])) (ws.getD 1 [])).1, s.met ++ [plc nms (ws.headD [])]⟩, 0)
/-- A line that says nothing. -/
def skip (l : List UInt8) : Bool := match words l with | [] => true | w :: _ => w.head? == some 35
def stepL (s : CS) (l : List UInt8) : CS × Int := if skip l then (s, 0) else lineS s (words l)
def runL (s : CS) : List (List UInt8) → Nat → CS × Nat × Int
  | [], _ => (s, 0, 0)
  | l :: r, i => if (stepL s l).2 ≠ 0 then (s, i + 1, (stepL s l).2) else runL (stepL s l).1 r (i + 1)
/-- What a text says. -/
def readC (t : List UInt8) : CfR × Nat × Int :=
  if (runL ⟨zC, []⟩ (parts 10 t) 0).2.2 ≠ 0 then (zC, (runL ⟨zC, []⟩ (parts 10 t) 0).2) else if chk (runL ⟨zC, []⟩ (parts 10 t) 0).1.c ≠ 0 then (zC, 0, chk (runL ⟨zC, []⟩ (parts 10 t) 0).1.c) else ((runL ⟨zC, []⟩ (parts 10 t) 0).1.c, 0, 0)
/-- The state behind the first lines, if they are right. -/
def gud (s : CS) : List (List UInt8) → Option CS
  | [] => some s
  | l :: r => if (stepL s l).2 ≠ 0 then none else gud (stepL s l).1 r
theorem gud_snoc (s : CS) : ∀ (l : List (List UInt8)) (x : List UInt8) (s' : CS), gud s l = some s' → gud s (l ++ [x]) = if (stepL s' x).2 ≠ 0 then none else some (stepL s' x).1
  | [], x, s', h => by cases h; rfl
  | y :: r, x, s', h => by
    rw [List.cons_append, gud]
    rw [gud] at h
    by_cases hy : (stepL s y).2 = 0
    · rw [if_neg (by simp [hy])] at h ⊢; exact gud_snoc _ r x s' h
    · rw [if_pos hy] at h; cases h
theorem run_bad (s : CS) : ∀ (pre : List (List UInt8)) (x : List UInt8) (post : List (List UInt8)) (s' : CS) (i : Nat), gud s pre = some s' → (stepL s' x).2 ≠ 0 → (runL s (pre ++ x :: post) i).2 = (i + pre.length + 1, (stepL s' x).2)
  | [], x, post, s', i, h, hx => by cases h; rw [List.nil_append, runL, if_pos hx]; rfl
  | y :: r, x, post, s', i, h, hx => by
    rw [gud] at h
    by_cases hy : (stepL s y).2 = 0
    · rw [if_neg (by simp [hy])] at h
      rw [List.cons_append, runL, if_neg (by simp [hy]), run_bad _ r x post s' (i + 1) h hx, List.length_cons]
      rw [show i + 1 + r.length + 1 = i + (r.length + 1) + 1 by omega]
    · rw [if_pos hy] at h; cases h
theorem run_good (s : CS) : ∀ (l : List (List UInt8)) (s' : CS) (i : Nat), gud s l = some s' → runL s l i = (s', 0, 0)
  | [], s', i, h => by cases h; rfl
  | y :: r, s', i, h => by
    rw [gud] at h
    by_cases hy : (stepL s y).2 = 0
    · rw [if_neg (by simp [hy])] at h
      rw [runL, if_neg (by simp [hy])]
      exact run_good _ r s' (i + 1) h
    · rw [if_pos hy] at h; cases h
theorem readC_bad {t : List UInt8} {k : Nat} {s' : CS} (hk : k < (parts 10 t).length) (h : gud ⟨zC, []⟩ ((parts 10 t).take k) = some s') (hx : (stepL s' (parts 10 t)[k]).2 ≠ 0) : readC t = (zC, k + 1, (stepL s' (parts 10 t)[k]).2) := by
  have e : parts 10 t = (parts 10 t).take k ++ (parts 10 t)[k] :: (parts 10 t).drop (k + 1) := by rw [List.getElem_cons_drop, List.take_append_drop]
  have hb := run_bad ⟨zC, []⟩ _ (parts 10 t)[k] ((parts 10 t).drop (k + 1)) s' 0 h hx
  rw [← e, List.length_take, Nat.min_eq_left (by omega)] at hb
  unfold readC
  rw [hb]
  simp only [ne_eq, hx, not_false_eq_true, if_true, Nat.zero_add]
theorem readC_done {t : List UInt8} {s' : CS} (h : gud ⟨zC, []⟩ (parts 10 t) = some s') : readC t = if chk s'.c ≠ 0 then (zC, 0, chk s'.c) else (s'.c, 0, 0) := by
  have hb := run_good ⟨zC, []⟩ _ s' 0 h
  unfold readC
  rw [hb]; simp

/-- Configurations' texts. -/
def valN (c : CfR) : Nat → Nat
  | 0 => c.rank.toNat | 1 => c.back.toNat | 2 => c.levels.toNat | 3 => c.queues.toNat | 4 => c.packets.toNat | 5 => c.bytes | 6 => c.share.toNat | 7 => c.mtu | 8 => c.rate | _ => c.burst
def wordN (c : CfR) (i : Nat) : List UInt8 := if i = 0 then krs.getD (c.rank.toNat - 1) [] else if i = 1 then kbs.getD (c.back.toNat - 1) [] else putU (valN c i)
def hdW (c : CfR) (i : Nat) : List (List UInt8) := [nms.getD i [], wordN c i]
def flW (f : FlR) : List (List UInt8) := [nms.getD 10 [], putU f.id, putU f.cost, putU f.budget, putU f.size, putU f.cap]
def itemsC (c : CfR) : List (List (List UInt8)) := (List.range 10).map (hdW c) ++ c.flows.map flW
def textC (c : CfR) : List UInt8 := (itemsC c).flatMap fun l => joinL l ++ [10]
end Go.Proofs.YtacgabagfdlpeaaGreatDoor
