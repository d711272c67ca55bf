/- Configurations (layer 24) in plain Lean: which may be, what their texts are, what texts say. -/
import Derived.Test.YtjhghagmnkjpkaaGreatMShaperNobodyF10
import Derived.Test.YtjhghagmnkjpkaaGreatMShaperNobodyF1
import Derived.Test.YtjhghagmnkjpkaaGreatProg
import Derived.BigQuiet
import Derived.Deep.QuietTactic
import Derived.Test.YtjhghagmnkjpkaaGreatShelf
namespace Go.Proofs.YtjhghagmnkjpkaaGreat
set_option linter.unusedVariables false
set_option linter.unusedSimpArgs false

structure CfR where
  rank : Int
  back : Int
  levels : Int
  queues : Int
  packets : Int
  bytes : Nat
  share : Int
  mtu : Nat
  rate : Nat
  burst : Nat
  flows : List FlR
structure CfR.ok (c : CfR) : Prop where
  rank : -9223372036854775808 ≤ c.rank ∧ c.rank ≤ 9223372036854775807
  back : -9223372036854775808 ≤ c.back ∧ c.back ≤ 9223372036854775807
  levels : -9223372036854775808 ≤ c.levels ∧ c.levels ≤ 9223372036854775807
  queues : -9223372036854775808 ≤ c.queues ∧ c.queues ≤ 9223372036854775807
  packets : -9223372036854775808 ≤ c.packets ∧ c.packets ≤ 9223372036854775807
  bytes : c.bytes < M64
  share : -9223372036854775808 ≤ c.share ∧ c.share ≤ 9223372036854775807
  mtu : c.mtu < M64
  rate : c.rate < M64
  burst : c.burst < M64
  flows : ∀ f ∈ c.flows, f.ok
def zC : CfR := ⟨0, 0, 0, 0, 0, 0, 0, 0, 0, 0, []⟩
/-- Why flows may not be. -/
def flowsE (l : List FlR) : Int := if l.length = 0 ∨ 64 < l.length then 29 else if (l.map (·.id)).Nodup then 0 else 30
def admE (c : CfR) : Int :=
  if c.packets < 1 ∨ 4096 < c.packets ∨ c.bytes = 0 ∨ c.share < 0 ∨ 16 < c.share then 25
  else if 18446744073709551615 / 2 ^ c.share.toNat < c.bytes then 25 else if c.mtu < 1 ∨ 65535 < c.mtu then 26 else flowsE c.flows
/-- Why a configuration may not be. -/
def chk (c : CfR) : Int :=
  if c.rank < 1 ∨ 3 < c.rank ∨ c.back < 1 ∨ 3 < c.back then 22 else if c.levels < 1 ∨ 3 < c.levels then 23 else if c.queues < 1 ∨ 32 < c.queues then 24
  else if admE c ≠ 0 then admE c else if c.rate = 0 then 27 else if c.burst < c.mtu then 28 else 0

/-- The lines' names; flow is the last one. -/
def nms : List (List UInt8) := [[114, 97, 110, 107], [98, 97, 99, 107], [108, 101, 118, 101, 108, 115], [113, 117, 101, 117, 101, 115], [112, 97, 99, 107, 101, 116, 115], [98, 121, 116, 101, 115], [115, 104, 97, 114, 101], [109, 116, 117], [114, 97, 116, 101], [98, 117, 114, 115, 116], [102, 108, 111, 119]]
def krs : List (List UInt8) := [[115, 116, 102, 113], [101, 100, 102], [115, 114, 115]]
def kbs : List (List UInt8) := [[104, 101, 97, 112], [99, 97, 108, 101, 110, 100, 97, 114], [113, 117, 101, 117, 101, 115]]
/-- A word's place in a list; how many there are, if it is none of them. -/
def plc (l : List (List UInt8)) (w : List UInt8) : Nat := match l with | [] => 0 | x :: r => if w = x then 0 else plc r w + 1
theorem plc_le (w : List UInt8) : ∀ l : List (List UInt8), plc l w ≤ l.length
  | [] => by simp [plc]
  | x :: r => by
    unfold plc
    split
    · exact Nat.zero_le _
    · have := plc_le w r; simp; omega
theorem plc_at (w : List UInt8) : ∀ (l : List (List UInt8)) (k : Nat) (h : k < l.length), w = l[k] → (∀ (j : Nat) (hj : j < l.length), j < k → w ≠ l[j]) → plc l w = k
  | x :: r, 0, _, e, _ => by unfold plc; rw [if_pos (by simpa using e)]
  | x :: r, k + 1, h, e, hl => by
    have h0 : w ≠ x := hl 0 (by simp) (by omega)
    unfold plc
    rw [if_neg h0, plc_at w r k (by simpa using h) (by simpa using e) (fun j hj hjk => by have := hl (j + 1) (by simp; omega) (by omega); simpa using this)]
theorem plc_no (w : List UInt8) : ∀ (l : List (List UInt8)), (∀ (j : Nat) (hj : j < l.length), w ≠ l[j]) → plc l w = l.length
  | [], _ => rfl
  | x :: r, hl => by
    unfold plc
    have h0 : w ≠ x := hl 0 (by simp)
    rw [if_neg h0, plc_no w r (fun j hj => by have := hl (j + 1) (by simp; omega); simpa using this)]; rfl
def kindN (l : List (List UInt8)) (w : List UInt8) : Nat := if plc l w = l.length then 0 else plc l w + 1

def numE (most : Nat) (w : List UInt8) : Nat × Int := if (rdU w).2 ≠ 0 then (0, (rdU w).2) else if most < (rdU w).1 then (0, 5) else ((rdU w).1, 0)
def mostN (at_ : Nat) : Nat := if at_ = 2 ∨ at_ = 3 ∨ at_ = 4 ∨ at_ = 6 then 2147483647 else 18446744073709551615
def setAt (c : CfR) (at_ n : Nat) : CfR :=
  match at_ with
  | 0 => { c with rank := n } | 1 => { c with back := n } | 2 => { c with levels := n } | 3 => { c with queues := n } | 4 => { c with packets := n }
  | 5 => { c with bytes := n } | 6 => { c with share := n } | 7 => { c with mtu := n } | 8 => { c with rate := n } | _ => { c with burst := n }
/-- What a line's one word says. -/
def sayE (at_ : Nat) (w : List UInt8) : Nat × Int :=
  if at_ = 0 then (kindN krs w, if kindN krs w = 0 then 22 else 0) else if at_ = 1 then (kindN kbs w, if kindN kbs w = 0 then 22 else 0) else numE (mostN at_) w
def mostF (i : Nat) : Nat := if i = 0 then 4294967295 else 18446744073709551615
/-- The error of a flow's words. -/
def flE : Nat → List (List UInt8) → Int
  | _, [] => 0
  | i, w :: r => if (numE (mostF i) w).2 ≠ 0 then (numE (mostF i) w).2 else flE (i + 1) r
def flV (l : List (List UInt8)) : FlR := ⟨(rdU (l.getD 0 [])).1, (rdU (l.getD 1 [])).1, (rdU (l.getD 2 [])).1, (rdU (l.getD 3 [])).1, (rdU (l.getD 4 [])).1⟩
/-- What was said, and which names were. -/
structure CS where
  c : CfR
  met : List Nat
/-- Behind a line of words; why it is wrong. -/
def lineS (s : CS) (ws : List (List UInt8)) : CS × Int :=
  if plc nms (ws.headD []) = 11 ∨ ws.length ≠ (if plc nms (ws.headD []) = 10 then 6 else 2) ∨ (plc nms (ws.headD []) < 10 ∧ plc nms (ws.headD []) ∈ s.met) then (s, 31)
  else if plc nms (ws.headD []) = 10 then (if flE 0 ws.tail ≠ 0 then (s, flE 0 ws.tail) else (⟨{ s.c with flows := s.c.flows ++ [flV ws.tail] }, s.met ++ [10]⟩, 0))
  else if (sayE (plc nms (ws.headD [])) (ws.getD 1 [])).2 ≠ 0 then (s, (sayE (plc nms (ws.headD [])) (ws.getD 1 [])).2)
  else (⟨setAt s.c (plc nms (ws.headD [])) (sayE (plc nms (ws.headD [])) (ws.getD 1 [])).1, s.met ++ [plc nms (ws.headD [])]⟩, 0)
/-- A line that says nothing. -/
def skip (l : List UInt8) : Bool := match words l with | [] => true | w :: _ => w.head? == some 35
def stepL (s : CS) (l : List UInt8) : CS × Int := if skip l then (s, 0) else lineS s (words l)
def runL (s : CS) : List (List UInt8) → Nat → CS × Nat × Int
  | [], _ => (s, 0, 0)
  | l :: r, i => if (stepL s l).2 ≠ 0 then (s, i + 1, (stepL s l).2) else runL (stepL s l).1 r (i + 1)
/-- What a text says. -/
def readC (t : List UInt8) : CfR × Nat × Int :=
  if (runL ⟨zC, []⟩ (parts 10 t) 0).2.2 ≠ 0 then (zC, (runL ⟨zC, []⟩ (parts 10 t) 0).2) else if chk (runL ⟨zC, []⟩ (parts 10 t) 0).1.c ≠ 0 then (zC, 0, chk (runL ⟨zC, []⟩ (parts 10 t) 0).1.c) else ((runL ⟨zC, []⟩ (parts 10 t) 0).1.c, 0, 0)
/-- The state behind the first lines, if they are right. -/
def gud (s : CS) : List (List UInt8) → Option CS
  | [] => some s
  | l :: r => if (stepL s l).2 ≠ 0 then none else gud (stepL s l).1 r
theorem gud_snoc (s : CS) : ∀ (l : List (List UInt8)) (x : List UInt8) (s' : CS), gud s l = some s' → gud s (l ++ [x]) = if (stepL s' x).2 ≠ 0 then none else some (stepL s' x).1
  | [], x, s', h => by cases h; rfl
  | y :: r, x, s', h => by
    rw [List.cons_append, gud]
    rw [gud] at h
    by_cases hy : (stepL s y).2 = 0
    · rw [if_neg (by simp [hy])] at h ⊢; exact gud_snoc _ r x s' h
    · rw [if_pos hy] at h; cases h
theorem run_bad (s : CS) : ∀ (pre : List (List UInt8)) (x : List UInt8) (post : List (List UInt8)) (s' : CS) (i : Nat), gud s pre = some s' → (stepL s' x).2 ≠ 0 → (runL s (pre ++ x :: post) i).2 = (i + pre.length + 1, (stepL s' x).2)
  | [], x, post, s', i, h, hx => by cases h; rw [List.nil_append, runL, if_pos hx]; rfl
  | y :: r, x, post, s', i, h, hx => by
    rw [gud] at h
    by_cases hy : (stepL s y).2 = 0
    · rw [if_neg (by simp [hy])] at h
      rw [List.cons_append, runL, if_neg (by simp [hy]), run_bad _ r x post s' (i + 1) h hx, List.length_cons]
      rw [show i + 1 + r.length + 1 = i + (r.length + 1) + 1 by omega]
    · rw [if_pos hy] at h; cases h
theorem run_good (s : CS) : ∀ (l : List (List UInt8)) (s' : CS) (i : Nat), gud s l = some s' → runL s l i = (s', 0, 0)
  | [], s', i, h => by cases h; rfl
  | y :: r, s', i, h => by
    rw [gud] at h
    by_cases hy : (stepL s y).2 = 0
    · rw [if_neg (by simp [hy])] at h
      rw [runL, if_neg (by simp [hy])]
      exact run_good _ r s' (i + 1) h
    · rw [if_pos hy] at h; cases h
theorem readC_bad {t : List UInt8} {k : Nat} {s' : CS} (hk : k < (parts 10 t).length) (h : gud ⟨zC, []⟩ ((parts 10 t).take k) = some s') (hx : (stepL s' (parts 10 t)[k]).2 ≠ 0) : readC t = (zC, k + 1, (stepL s' (parts 10 t)[k]).2) := by
  have e : parts 10 t = (parts 10 t).take k ++ (parts 10 t)[k] :: (parts 10 t).drop (k + 1) := by rw [List.getElem_cons_drop, List.take_append_drop]
  have hb := run_bad ⟨zC, []⟩ _ (parts 10 t)[k] ((parts 10 t).drop (k + 1)) s' 0 h hx
  rw [← e, List.length_take, Nat.min_eq_left (by omega)] at hb
  unfold readC
  rw [hb]
  simp only [ne_eq, hx, not_false_eq_true, if_true, Nat.zero_add]
theorem readC_done {t : List UInt8} {s' : CS} (h : gud ⟨zC, []⟩ (parts 10 t) = some s') : readC t = if chk s'.c ≠ 0 then (zC, 0, chk s'.c) else (s'.c, 0, 0) := by
  have hb := run_good ⟨zC, []⟩ _ s' 0 h
  unfold readC
  rw [hb]; simp

/-- Configurations' texts. -/
def valN (c : CfR) : Nat → Nat
  | 0 => c.rank.toNat | 1 => c.back.toNat | 2 => c.levels.toNat | 3 => c.queues.toNat | 4 => c.packets.toNat | 5 => c.bytes | 6 => c.share.toNat | 7 => c.mtu | 8 => c.rate | _ => c.burst
def wordN (c : CfR) (i : Nat) : List UInt8 := if i = 0 then krs.getD (c.rank.toNat - 1) [] else if i = 1 then kbs.getD (c.back.toNat - 1) [] else putU (valN c i)
def hdW (c : CfR) (i : Nat) : List (List UInt8) := [nms.getD i [], wordN c i]
def flW (f : FlR) : List (List UInt8) := [nms.getD 10 [], putU f.id, putU f.cost, putU f.budget, putU f.size, putU f.cap]
def itemsC (c : CfR) : List (List (List UInt8)) := (List.range 10).map (hdW c) ++ c.flows.map flW
def textC (c : CfR) : List UInt8 := (itemsC c).flatMap fun l => joinL l ++ [10]
end Go.Proofs.YtjhghagmnkjpkaaGreat

namespace Go.Proofs.YtjhghagmnkjpkaaGreat
set_option linter.unusedVariables false
set_option linter.unusedSimpArgs false
open Go Go.RowKit
theorem run_append_nilarg {P : Program} (w : World) (t ty e : TypeId) (i : TypeInfo) (ht : P.underlying t = some (.slice e)) (hi : P.info? e = some i) (base : Option Addr) (n cap c : Nat) (hn : n ≤ cap) : (Builtin.append_ #[t, t] ty #[.slice base n cap, .slice none 0 c]).run P w = .ok (.slice base n cap) w := by
  cases base with
  | none => simp [Builtin.append_, run_underlying ht, sizeOf, typeInfo, hi, Builtin.lenOf, Builtin.firstCells, hn]
  | some a => simp [Builtin.append_, run_underlying ht, sizeOf, typeInfo, hi, Builtin.lenOf, Builtin.firstCells, hn, storeCells]
theorem wp_appSl {P : Program} {t e : TypeId} {z : Value} {size bytes : Nat} (T : SlT P t e z size bytes) {ops : Array Oper} {rest : List Oper} {o : Oper} {a : Act} {Q : Exit → Act → World → Prop} {w : World} (s x : Operand)
    (hgd : o.guard = none) (ho : o.op = .call { callee := .builtin .append, args := #[s, x], argTypes := #[t, t] }) (base : Nat) {v : Value} {n : Nat} {xs : List Value} (hown : w.ownsRow base e size v n xs)
    {v2 : Value} {m : Nat} {news : List Value} (hs : a.eval s = v) (hx : a.eval x = v2) (hsl : Sl w v2 m size news) (h1 : news.all (·.oneCell') = true)
    (hbytes : (n + m) * bytes ≤ 140737488355328) (h63 : n + m ≤ 9223372036854775807) (hbase : base ≤ w.heap.size)
    (h : ∀ v' w', w'.ownsRow base e size v' (n + m) (xs ++ news) → w.grownBy w' v.ownBlock → wpList P ops Q rest (a.put o.dst v') w') : wpList P ops Q (o :: rest) a w := by
  obtain ⟨i, hi, hz0, hz1, hz2⟩ := info_parts T.info
  obtain ⟨ao, c, rfl, hc⟩ := hsl.is
  cases ao with
  | some ad =>
    refine wpList_append_own w hgd s x t ho base e i z size bytes T.ht hi hz0 hz1 hz2 T.hz T.pos v n xs hs hown ad m c news hx hsl.len ?_ (by simpa using h1) (by unfold maxLen; omega) hbytes hbase (fun v' w' a1 a2 _ => h v' w' a1 a2)
    intro j u hu
    obtain ⟨b, off, e1, h2⟩ := hc j u hu
    injection e1 with e1
    subst e1
    have e : (⟨b, off, none⟩ : Addr).add j = ⟨b, off + j, none⟩ := by unfold Addr.add; split <;> simp_all
    rw [e]; exact h2
  | none =>
    have hn : news = [] := by
      cases news with
      | nil => rfl
      | cons u r => obtain ⟨_, _, e1, _⟩ := hc 0 u rfl; cases e1
    subst hn
    have hm : m = 0 := by
      have h1 := hsl.len
      rw [List.length_nil] at h1
      rcases Nat.mul_eq_zero.1 h1.symm with h2 | h2
      · exact h2
      · have := T.pos; omega
    subst hm
    obtain ⟨bo, cap, rfl⟩ := own_shape hown
    have hcap : n ≤ cap := by
      rcases hown.2 with ⟨h0, hn⟩ | ⟨g, cap', cur, hv, _, _, h2, _⟩
      · omega
      · injection hv with _ _ h3; omega
    have hr := run_append_nilarg (P := P) w t o.type e i T.ht hi bo n cap c hcap
    refine wpList_plain hgd fun K hK => ?_
    unfold Oper.wp execOp
    simp only [ho, resolve, invoke, builtin, Sem.run_bind, Sem.run_pure, Result.andThen_ok, List.map_toArray, List.map_cons, List.map_nil, hs, hx, hr]
    exact hK _ _ (h _ _ (by simpa using hown) ⟨rfl, rfl, rfl, Nat.le_refl _, fun _ _ _ => rfl⟩)
end Go.Proofs.YtjhghagmnkjpkaaGreat

namespace Go.Proofs.YtjhghagmnkjpkaaGreat
set_option linter.unusedVariables false
set_option linter.unusedSimpArgs false
open Go.RowKit
/-- The cells of texts. -/
def strs (l : List ByteArray) : List Value := l.map Value.string
theorem strs_get (l : List ByteArray) (k : Nat) (h : k < l.length) : (strs l)[k]? = some (.string (l[k]'h)) := by simp [strs, h]
theorem strs_len (l : List ByteArray) : (strs l).length = l.length := by simp [strs]
theorem strs_snoc (l : List ByteArray) (x : ByteArray) : strs (l ++ [x]) = strs l ++ [.string x] := by simp [strs]
end Go.Proofs.YtjhghagmnkjpkaaGreat

namespace Go.Proofs.YtjhghagmnkjpkaaGreat
set_option linter.unusedVariables false
set_option linter.unusedSimpArgs false
theorem take_snoc' {α : Type} (l : List α) (k : Nat) (h : k < l.length) {y : α} (hy : l[k] = y) : l.take (k + 1) = l.take k ++ [y] := by
  rw [List.take_succ_eq_append_getElem h, hy]
end Go.Proofs.YtjhghagmnkjpkaaGreat

namespace Go.Proofs.YtjhghagmnkjpkaaGreat
set_option linter.unusedVariables false
set_option linter.unusedSimpArgs false
open Go Go.RowKit Go.Shelf

def eU (x : Nat) : Value := .int .u32 x
theorem tU32 : SlT Tryz.prog 156 28 (.int .u32 0) 1 4 := ⟨Tryz.underlying156, by kernel_rfl, rfl, by decide⟩
theorem tFlw : SlT Tryz.prog 46 77 (.agg #[.int .u32 0, .int .u64 0, .int .u64 0, .int .u64 0, .int .u64 0]) 5 40 := ⟨Tryz.underlying46, by kernel_rfl, rfl, by decide⟩
theorem tU64 : SlT Tryz.prog 40 29 (.int .u64 0) 1 8 := ⟨Tryz.underlying40, by kernel_rfl, rfl, by decide⟩
theorem eU_get {xs : List Nat} {i : Nat} (h : i < xs.length) : (xs.map eU)[i]? = some (.int .u32 (xs[i] : Int)) := by
  rw [List.getElem?_map, List.getElem?_eq_getElem h]; rfl
set_option maxHeartbeats 2000000 in
theorem gIndex (xs : List Nat) (x : Nat) (v : Value) (w : World) (h : Sl w v xs.length 1 (xs.map eU)) : Calls Tryz.prog 64 #[v, .int .u32 x] w fun e w' => (∃ r : Int, e = .returned (.int .i64 r) ∧ (0 ≤ r ↔ x ∈ xs)) ∧ Kp none' w w' := by
  obtain ⟨ao, cap, rfl⟩ : ∃ ao cap, v = .slice ao xs.length cap := by obtain ⟨ao, cap, rfl, _⟩ := h.is; exact ⟨_, _, rfl⟩
  have hmx := h.max
  have HS := Lib.hid h
  clear h
  go_enter Tryz.func64, Tryz.ntmps64
  go_wp2
  go_loopw [8] (fun i0 wr => ∃ k : Nat, i0 = .int .i64 k ∧ k ≤ xs.length ∧ Hid ((∀ (j : Nat) (hj : j < xs.length), j < k → x ≠ xs[j]) ∧ Kp none' w wr)) (fun i0 _ => xs.length - (intOf i0).toNat)
  case atStart => exact ⟨0, rfl, by omega, fun j _ h => by omega, Kp.refl _ _⟩
  case round =>
    obtain ⟨k, rfl, hk, hr⟩ := hrel
    by_cases hlt : k < xs.length
    · have hki : (k : Int) < xs.length := by omega
      obtain ⟨ao', cap', e1, hc⟩ := (HS.out.old hr.out.2).is
      injection e1 with e1 _ e3
      subst e1 e3
      obtain ⟨b, off, rfl, hcell⟩ := hc k _ (eU_get hlt)
      by_cases hx : x = xs[k]
      · have hxi : (x : Int) = (xs[k] : Nat) := by rw [← hx]
        have hxb : ((x : Int) == ((xs[k] : Nat) : Int)) = true := by rw [beq_iff_eq]; exact hxi
        have HX : Hid (x ∈ xs) := by show _ ∈ _; rw [hx]; exact List.getElem_mem hlt
        clear hx hc hxi
        go_wp2
        go_ret
        exact ⟨⟨_, rfl, ⟨fun _ => HX.out, fun _ => by omega⟩⟩, hr.out.2⟩
      · have hxb : ((x : Int) == ((xs[k] : Nat) : Int)) = false := by rw [beq_eq_false_iff_ne]; omega
        have HX := Lib.hid hx
        clear hx hc
        go_wp2
        go_roundw
        case rel => exact ⟨k + 1, by go_num, by omega, fun j hj h => by
          rcases Nat.lt_or_ge j k with h1 | h1
          · exact hr.out.1 j hj h1
          · have : j = k := by omega
            subst this; exact HX.out, hr.out.2⟩
        case measure => simp [intOf]; omega
    · have hke : k = xs.length := by omega
      subst hke
      go_wp2
      go_ret
      refine ⟨⟨_, rfl, ⟨fun h => by omega, fun h => ?_⟩⟩, hr.out.2⟩
      obtain ⟨i, hi, e⟩ := List.mem_iff_getElem.1 h
      exact absurd e.symm (hr.out.1 i hi hi)
set_option maxHeartbeats 2000000 in
theorem gContains (xs : List Nat) (x : Nat) (v : Value) (w : World) (h : Sl w v xs.length 1 (xs.map eU)) : Calls Tryz.prog 52 #[v, .int .u32 x] w fun e w' => e = .returned (.bool (decide (x ∈ xs))) ∧ Kp none' w w' := by
  have HI := Lib.hid (gIndex xs x v w h)
  clear h
  go_enter Tryz.func52, Tryz.ntmps52
  go_wp2_with fail
  refine (HI.out).mono ?_
  rintro e w1 ⟨⟨r, rfl, hr⟩, k1⟩
  have HK := Lib.hid k1
  have hd : decide (0 ≤ r) = decide (x ∈ xs) := by rw [decide_eq_decide]; exact hr
  have HD := Lib.hid hd
  clear hr hd k1 HI
  go_wp2
  go_ret
  exact ⟨by rw [← HD.out]; rfl, HK.out⟩
def idsF (l : List FlR) : List Nat := l.map (·.id)
theorem idsF_snoc (l : List FlR) (k : Nat) (h : k < l.length) : idsF (l.take (k + 1)) = idsF (l.take k) ++ [l[k].id] := by
  unfold idsF; rw [List.take_succ_eq_append_getElem h, List.map_append]; rfl
theorem idsF_len (l : List FlR) (k : Nat) (h : k ≤ l.length) : (idsF (l.take k)).length = k := by unfold idsF; rw [List.length_map, List.length_take]; omega
theorem nodup_snoc {xs : List Nat} {x : Nat} (h : xs.Nodup) (hx : x ∉ xs) : (xs ++ [x]).Nodup := by
  rw [List.nodup_append]
  exact ⟨h, by simp, fun a ha b hb => by simp at hb; subst hb; exact fun e => hx (e ▸ ha)⟩
theorem nodup_not {l : List FlR} {k : Nat} (h : k < l.length) (hx : l[k].id ∈ idsF (l.take k)) : ¬ (idsF l).Nodup := by
  intro hn
  have e : idsF l = idsF (l.take (k + 1)) ++ idsF (l.drop (k + 1)) := by unfold idsF; rw [← List.map_append, List.take_append_drop]
  rw [e, idsF_snoc l k h, List.nodup_append] at hn
  have := (List.nodup_append.1 hn.1).2.2 _ hx l[k].id (by simp)
  exact this rfl
set_option maxRecDepth 100000 in
set_option maxHeartbeats 4000000 in
theorem gTwice (l : List FlR) (hl : l.length ≤ 64) (v : Value) (w : World) (h : Sl w v l.length 5 (l.flatMap enFl)) : Calls Tryz.prog 34 #[v] w fun e w' => e = .returned (.bool (!decide (idsF l).Nodup)) ∧ Kp none' w w' := by
  obtain ⟨ao, cap, rfl⟩ : ∃ ao cap, v = .slice ao l.length cap := by obtain ⟨ao, cap, rfl, _⟩ := h.is; exact ⟨_, _, rfl⟩
  have HS := Lib.hid h
  clear h
  go_enter Tryz.func34, Tryz.ntmps34
  go_wp2
  go_loopw [3, 8] (fun s0 i0 wr => ∃ (k : Nat) (v3 : Value), v3 = s0 ∧ i0 = .int .i64 k ∧ k ≤ l.length ∧ Hid (wr.ownsRow w.heap.size 28 1 v3 k ((idsF (l.take k)).map eU) ∧ (idsF (l.take k)).Nodup ∧ Kp none' w wr)) (fun _ i0 _ => l.length - (intOf i0).toNat)
  case atStart => exact ⟨0, _, rfl, rfl, by omega, ⟨rfl, .inl ⟨rfl, rfl⟩⟩, List.nodup_nil, Kp.refl _ _⟩
  case round =>
    obtain ⟨k, v3, rfl, rfl, hk, hr⟩ := hrel
    by_cases hlt : k < l.length
    · have hki : (k : Int) < l.length := by omega
      obtain ⟨gx, ox, cx, e1, hcx⟩ := (HS.out.old hr.out.2.2).at enFl_len (by decide) k hlt
      injection e1 with e1 _ e3
      subst e1 e3
      obtain ⟨f, hf⟩ : ∃ f, l[k] = f := ⟨_, rfl⟩
      have hsn := idsF_snoc l k hlt
      have HND : Hid (f.id ∈ idsF (l.take k) → ¬ (idsF l).Nodup) := by show _ → _; rw [← hf]; exact nodup_not hlt
      rw [hf] at hcx hsn
      have d0 := hcx 0 _ rfl
      have d1 := hcx 1 _ rfl
      have d2 := hcx 2 _ rfl
      have d3 := hcx 3 _ rfl
      have d4 := hcx 4 _ rfl
      simp only [Nat.add_zero] at d0
      have hil := idsF_len l k (by omega)
      have HSN := Lib.hid hsn; have HIL := Lib.hid hil
      have hzr := hr.out.2.2.size
      clear hcx hf hsn hil
      go_wp2_with fail
      have hk1 := (Kp.refl none' wr).alloc (.cells (enFl f).toArray 77)
      have hb1 := Blk.new wr (enFl f) 77
      have hk1' : Kp none' wr (wr.alloc (.cells #[.int .u32 f.id, .int .u64 f.cost, .int .u64 f.budget, .int .u64 f.size, .int .u64 f.cap] 77)) := hk1
      have hb1' : Blk (wr.alloc (.cells #[.int .u32 f.id, .int .u64 f.cost, .int .u64 f.budget, .int .u64 f.size, .int .u64 f.cap] 77)) wr.heap.size (enFl f) 77 := hb1
      clear hk1 hb1 d0 d1 d2 d3 d4
      generalize wr.alloc (.cells #[.int .u32 f.id, .int .u64 f.cost, .int .u64 f.budget, .int .u64 f.size, .int .u64 f.cap] 77) = w1 at *
      have HK1 := Lib.hid hk1'; have HB1 := Lib.hid hb1'
      have HO1 := Lib.hid (own_kp hr.out.1 hk1' (fun _ _ x => x))
      clear hk1' hb1'
      have HC := Lib.hid (gContains (idsF (l.take k)) f.id v3 w1 (by have := own_sl HO1.out; rw [HIL.out]; exact this))
      refine (HC.out).mono ?_
      rintro e w2 ⟨rfl, k2⟩
      have HK2 := Lib.hid (HK1.out.trans k2); have HB2 := Lib.hid (HB1.out.kp k2 (fun x => x)); have HO2 := Lib.hid (own_kp HO1.out k2 (fun _ _ x => x))
      have hz2 := (hr.out.2.2.trans HK2.out).size
      clear k2 HC HB1 HK1 HO1
      have c0 := HB2.out.cell 0 rfl
      cases hb : decide (f.id ∈ idsF (l.take k)) with
      | true =>
        have HN := Lib.hid (HND.out (of_decide_eq_true hb))
        clear hb
        go_wp2
        go_ret
        exact ⟨by rw [decide_eq_false HN.out]; rfl, hr.out.2.2.trans HK2.out⟩
      | false =>
        have HN := Lib.hid (nodup_snoc hr.out.2.1 (of_decide_eq_false hb))
        clear hb
        go_wp2_with (first
          | (refine wp_app1 tU32 (.tmp 16) (.tmp 19) rfl rfl w.heap.size (v := v3) (HO2.out.alloc _) [.int .u32 f.id] rfl rfl rfl (fr := (0, 0)) (heap_new _ _) rfl (by omega) (by omega) (by simp; omega) ?_; intro g8 cap8 w8 hown8 hgrow8
             have hk8 := ((hr.out.2.2.trans HK2.out).alloc (.cells #[.int .u32 f.id] 28)).grown hgrow8 (fun b hb => .inr (own_block hr.out.1 hb).1)
             have HK8 := Lib.hid hk8
             have HO8 : Hid (w8.ownsRow w.heap.size 28 1 (.slice (some ⟨g8, 0, none⟩) (k + 1) cap8) (k + 1) ((idsF (l.take (k + 1))).map eU)) := by show World.ownsRow _ _ _ _ _ _ _; rw [HSN.out, List.map_append]; exact hown8
             clear hown8 hgrow8 hk8))
        go_roundw
        case rel => exact ⟨k + 1, _, rfl, by go_num, by omega, HO8.out, by rw [HSN.out]; exact HN.out, HK8.out⟩
        case measure => simp [intOf]; omega
    · have hke : k = l.length := by omega
      subst hke
      have HN : Hid ((idsF l).Nodup) := by have := hr.out.2.1; rw [List.take_length] at this; exact this
      go_wp2
      go_ret
      exact ⟨by rw [decide_eq_true HN.out]; rfl, hr.out.2.2⟩
end Go.Proofs.YtjhghagmnkjpkaaGreat
