/- Walks for layer 24: how many words stand behind a name; a map keyed by names. -/
import Derived.Test.YtlaakhfgidjofaaGreatDoorMSnapNobodyF8
import Derived.MapKept
import Derived.WideKeyRuns
namespace Go.Proofs.YtlaakhfgidjofaaGreatDoor
set_option linter.unusedVariables false
set_option linter.unusedSimpArgs false
open Go Go.RowKit Go.Shelf
theorem plc_inv (w : List UInt8) : ∀ (l : List (List UInt8)) (k : Nat), plc l w = k → k < l.length → l[k]? = some w
  | [], k, _, h => by simp at h
  | x :: r, k, e, h => by
    unfold plc at e
    split at e
    · subst e; simp_all
    · subst e
      have := plc_inv w r (plc r w) rfl (by simpa using h)
      simpa using this
theorem nm_eq (s : ByteArray) (i : Nat) (hi : i < 11) (x : List UInt8) (hx : nms.getD i [] = x) : (s.toList == x) = decide (plc nms (bl s) = i) := by
  have ht : s.toList = bl s := Lib.toList_data s
  rw [ht]
  by_cases e : bl s = x
  · have h := plc_nms i hi
    rw [hx, ← e] at h
    rw [h, e]; simp
  · have h : plc nms (bl s) ≠ i := fun h => e (by
      have h2 := plc_inv (bl s) nms i h hi
      rw [← hx, List.getD_eq_getElem?_getD, h2]; rfl)
    rw [decide_eq_false h]
    simpa using e
def wordsN (p : Nat) : Nat := if p < 10 then 1 else if p = 10 then 5 else 0
theorem nm_all (s : ByteArray) {p : Nat} (hp : plc nms (bl s) = p) : (s.toList == [114, 97, 110, 107]) = decide (p = 0) ∧ (s.toList == [98, 97, 99, 107]) = decide (p = 1) ∧ (s.toList == [108, 101, 118, 101, 108, 115]) = decide (p = 2) ∧ (s.toList == [113, 117, 101, 117, 101, 115]) = decide (p = 3) ∧ (s.toList == [112, 97, 99, 107, 101, 116, 115]) = decide (p = 4) ∧ (s.toList == [98, 121, 116, 101, 115]) = decide (p = 5) ∧ (s.toList == [115, 104, 97, 114, 101]) = decide (p = 6) ∧ (s.toList == [109, 116, 117]) = decide (p = 7) ∧ (s.toList == [114, 97, 116, 101]) = decide (p = 8) ∧ (s.toList == [98, 117, 114, 115, 116]) = decide (p = 9) ∧ (s.toList == [102, 108, 111, 119]) = decide (p = 10) := by
  subst hp
  exact ⟨nm_eq s 0 (by decide) _ rfl, nm_eq s 1 (by decide) _ rfl, nm_eq s 2 (by decide) _ rfl, nm_eq s 3 (by decide) _ rfl, nm_eq s 4 (by decide) _ rfl, nm_eq s 5 (by decide) _ rfl, nm_eq s 6 (by decide) _ rfl, nm_eq s 7 (by decide) _ rfl, nm_eq s 8 (by decide) _ rfl, nm_eq s 9 (by decide) _ rfl, nm_eq s 10 (by decide) _ rfl⟩
set_option maxHeartbeats 4000000 in
theorem cWords (s : ByteArray) (p : Nat) (hp : plc nms (bl s) = p) (w : World) : Calls Tryz.prog 143 #[.string s] w fun e w' => e = .returned (.int .i64 (wordsN p)) ∧ w = w' := by
  have hle := plc_le (bl s) nms
  rw [hp] at hle
  have hl : nms.length = 11 := rfl
  rw [hl] at hle
  obtain ⟨f0, f1, f2, f3, f4, f5, f6, f7, f8, f9, f10⟩ := nm_all s hp
  have hc : p = 0 ∨ p = 1 ∨ p = 2 ∨ p = 3 ∨ p = 4 ∨ p = 5 ∨ p = 6 ∨ p = 7 ∨ p = 8 ∨ p = 9 ∨ p = 10 ∨ p = 11 := by omega
  clear hp hle hl
  rcases hc with rfl | rfl | rfl | rfl | rfl | rfl | rfl | rfl | rfl | rfl | rfl | rfl
  · simp only [reduceCtorEq, Nat.reduceEqDiff, decide_true, decide_false] at f0 f1 f2 f3 f4 f5 f6 f7 f8 f9 f10
    go_enter Tryz.func143, Tryz.ntmps143
    go_wp2
    go_ret
    exact ⟨rfl, rfl⟩
  · simp only [reduceCtorEq, Nat.reduceEqDiff, decide_true, decide_false] at f0 f1 f2 f3 f4 f5 f6 f7 f8 f9 f10
    go_enter Tryz.func143, Tryz.ntmps143
    go_wp2
    go_ret
    exact ⟨rfl, rfl⟩
  · simp only [reduceCtorEq, Nat.reduceEqDiff, decide_true, decide_false] at f0 f1 f2 f3 f4 f5 f6 f7 f8 f9 f10
    go_enter Tryz.func143, Tryz.ntmps143
    go_wp2
    go_ret
    exact ⟨rfl, rfl⟩
  · simp only [reduceCtorEq, Nat.reduceEqDiff, decide_true, decide_false] at f0 f1 f2 f3 f4 f5 f6 f7 f8 f9 f10
    go_enter Tryz.func143, Tryz.ntmps143
    go_wp2
    go_ret
    exact ⟨rfl, rfl⟩
  · simp only [reduceCtorEq, Nat.reduceEqDiff, decide_true, decide_false] at f0 f1 f2 f3 f4 f5 f6 f7 f8 f9 f10
    go_enter Tryz.func143, Tryz.ntmps143
    go_wp2
    go_ret
    exact ⟨rfl, rfl⟩
  · simp only [reduceCtorEq, Nat.reduceEqDiff, decide_true, decide_false] at f0 f1 f2 f3 f4 f5 f6 f7 f8 f9 f10
    go_enter Tryz.func143, Tryz.ntmps143
    go_wp2
    go_ret
    exact ⟨rfl, rfl⟩
  · simp only [reduceCtorEq, Nat.reduceEqDiff, decide_true, decide_false] at f0 f1 f2 f3 f4 f5 f6 f7 f8 f9 f10
    go_enter Tryz.func143, Tryz.ntmps143
    go_wp2
    go_ret
    exact ⟨rfl, rfl⟩
  · simp only [reduceCtorEq, Nat.reduceEqDiff, decide_true, decide_false] at f0 f1 f2 f3 f4 f5 f6 f7 f8 f9 f10
    go_enter Tryz.func143, Tryz.ntmps143
    go_wp2
    go_ret
    exact ⟨rfl, rfl⟩
  · simp only [reduceCtorEq, Nat.reduceEqDiff, decide_true, decide_false] at f0 f1 f2 f3 f4 f5 f6 f7 f8 f9 f10
    go_enter Tryz.func143, Tryz.ntmps143
    go_wp2
    go_ret
    exact ⟨rfl, rfl⟩
  · simp only [reduceCtorEq, Nat.reduceEqDiff, decide_true, decide_false] at f0 f1 f2 f3 f4 f5 f6 f7 f8 f9 f10
    go_enter Tryz.func143, Tryz.ntmps143
    go_wp2
    go_ret
    exact ⟨rfl, rfl⟩
  · simp only [reduceCtorEq, Nat.reduceEqDiff, decide_true, decide_false] at f0 f1 f2 f3 f4 f5 f6 f7 f8 f9 f10
    go_enter Tryz.func143, Tryz.ntmps143
    go_wp2
    go_ret
    exact ⟨rfl, rfl⟩
  · simp only [reduceCtorEq, Nat.reduceEqDiff, decide_true, decide_false] at f0 f1 f2 f3 f4 f5 f6 f7 f8 f9 f10
    go_enter Tryz.func143, Tryz.ntmps143
    go_wp2
    go_ret
    exact ⟨rfl, rfl⟩
def MapS (w : World) (mb : Nat) (K : List (Nat × Nat)) : Prop := ∃ (es : Array MapEntry) (clock : Nat), w.heap[mb]? = some (.map es clock) ∧ es.toList.map (fun e => (e.key, e.val)) = K.map (fun x => (.string (tx (nms.getD x.1 [])), .int .i64 (x.2 : Int))) ∧ ∀ x ∈ K, x.1 < 11
theorem MapS.kp {S : Nat → Prop} {w w' : World} {mb : Nat} {K : List (Nat × Nat)} (h : MapS w mb K) (k : Kp S w w') (hs : ¬ S mb) : MapS w' mb K := by
  obtain ⟨es, clock, hb, h1, h2⟩ := h
  exact ⟨es, clock, (k.block mb (Array.getElem?_eq_some_iff.1 hb).1 hs).trans hb, h1, h2⟩
def getS : List (Nat × Nat) → Nat → Nat
  | [], _ => 0
  | x :: K, p => if p = x.1 then x.2 else getS K p
def findS (p : Nat) : List (Nat × Nat) → Nat → Option (Nat × Nat)
  | [], _ => none
  | x :: K, i => if p = x.1 then some (i, x.2) else findS p K (i + 1)
theorem ba_beq (s t : ByteArray) : (s == t) = decide (s = t) := by
  by_cases h : s = t
  · subst h; simp
    show (s.data == s.data) = true
    simp
  · rw [decide_eq_false h]
    show (s.data == t.data) = false
    rw [beq_eq_false_iff_ne]
    intro e; apply h; cases s; cases t; simp_all
theorem same_nm (s : ByteArray) {p : Nat} (hp : plc nms (bl s) = p) (i : Nat) (hi : i < 11) : (s == tx (nms.getD i [])) = decide (p = i) := by
  subst hp
  by_cases e : s = tx (nms.getD i [])
  · have h := plc_nms i hi
    have h2 : bl s = nms.getD i [] := by rw [e, bl_tx]
    rw [h2, h, ba_beq, decide_eq_true e]; simp
  · have h : plc nms (bl s) ≠ i := fun h => e (str_ext (by
      have h2 := plc_inv (bl s) nms i h hi
      rw [bl_tx, List.getD_eq_getElem?_getD, h2]; rfl))
    rw [decide_eq_false h, ba_beq, decide_eq_false e]
theorem find_nm (s : ByteArray) {p : Nat} (hp : plc nms (bl s) = p) : ∀ (es : List MapEntry) (K : List (Nat × Nat)) (i : Nat), es.map (fun e => (e.key, e.val)) = K.map (fun x => (.string (tx (nms.getD x.1 [])), .int .i64 (x.2 : Int))) → (∀ x ∈ K, x.1 < 11) →
    Instr.findNow .string (.string s) es i = some ((findS p K i).map fun r => (r.1, .int .i64 (r.2 : Int)))
  | [], K, i, h, _ => by
    have : K = [] := by simpa using h.symm
    subst this; rfl
  | e :: es, [], i, h, _ => by simp at h
  | e :: es, x :: K, i, h, hk => by
    simp only [List.map_cons, List.cons.injEq, Prod.mk.injEq] at h
    obtain ⟨⟨h1, h2⟩, h3⟩ := h
    have ih := find_nm s hp es K (i + 1) h3 (fun y hy => hk y (by simp [hy]))
    unfold Instr.findNow
    rw [h1]
    simp only [Instr.sameNow, same_nm s hp x.1 (hk x (by simp))]
    unfold findS
    by_cases e1 : p = x.1
    · simp [e1, h2]
    · simp [e1, ih]
theorem find_getS (p : Nat) : ∀ (K : List (Nat × Nat)) (i : Nat), ((findS p K i).map (·.2)).getD 0 = getS K p
  | [], _ => rfl
  | x :: K, i => by
    unfold findS getS
    split
    · rfl
    · exact find_getS p K (i + 1)
theorem find_noneS {p : Nat} : ∀ {K : List (Nat × Nat)} {i : Nat}, findS p K i = none → ∀ x ∈ K, x.1 ≠ p
  | [], i, _, x, hx => by cases hx
  | y :: K, i, h, x, hx => by
    unfold findS at h
    split at h
    · cases h
    · rename_i e
      rcases List.mem_cons.1 hx with rfl | hx
      · exact fun h => e h.symm
      · exact find_noneS h x hx
theorem find_someS {p v j : Nat} : ∀ {K : List (Nat × Nat)} {i : Nat}, findS p K i = some (j, v) → ∃ m, j = i + m ∧ K[m]? = some (p, v) ∧ ∀ q u, getS (K.set m (p, u)) q = if q = p then u else getS K q
  | [], i, h => by cases h
  | x :: K, i, h => by
    unfold findS at h
    split at h
    · rename_i e
      cases h
      refine ⟨0, rfl, by rw [e]; rfl, fun q u => ?_⟩
      simp only [List.set_cons_zero, getS]
      by_cases e2 : q = p
      · rw [if_pos e2, if_pos e2]
      · rw [if_neg e2, if_neg e2, if_neg (by rw [← e]; exact e2)]
    · rename_i e
      obtain ⟨m, h1, h2, h3⟩ := find_someS h
      refine ⟨m + 1, by omega, by simpa using h2, fun q u => ?_⟩
      simp only [List.set_cons_succ, getS]
      by_cases e2 : q = x.1
      · rw [if_pos e2, if_pos e2, if_neg (fun h => e (h.symm.trans e2))]
      · rw [if_neg e2, if_neg e2, h3 q u]
theorem get_pushS {p u : Nat} (q : Nat) : ∀ {K : List (Nat × Nat)}, (∀ x ∈ K, x.1 ≠ p) → getS (K ++ [(p, u)]) q = if q = p then u else getS K q
  | [], _ => by simp only [List.nil_append, getS]
  | x :: K, h => by
    simp only [List.cons_append, getS]
    rw [get_pushS q (fun y hy => h y (by simp [hy]))]
    by_cases e : q = x.1
    · rw [if_pos e, if_neg (by rw [e]; exact h x (by simp)), if_pos e]
    · rw [if_neg e, if_neg e]
theorem chkStr (s : ByteArray) (b : Bool) (w : World) : (Instr.checkKey b 10000 9 (.string s)).run Tryz.prog w = .ok () w := by
  unfold Instr.checkKey
  simp [run_underlying Tryz.underlying9]
set_option maxRecDepth 100000 in
theorem run_lookS {w : World} {mb : Nat} {K : List (Nat × Nat)} (h : MapS w mb K) (s : ByteArray) {p : Nat} (hp : plc nms (bl s) = p) : (Instr.lookup 157 (.map (some mb)) (.string s) false).run Tryz.prog w = .ok (.int .i64 (getS K p : Nat)) w := by
  obtain ⟨es, clock, hb, h1, h2⟩ := h
  have hf := find_nm s hp es.toList K 0 h1 h2
  have hz : (zeroValue 3).run Tryz.prog w = .ok (.int .i64 0) w := Tryz.zeroValue3 w
  have hg := find_getS p K 0
  have hfk : (Instr.findKey 9 (.string s) es.toList).run Tryz.prog w = .ok ((findS p K 0).map fun r => (r.1, .int .i64 (r.2 : Int))) w := by
    unfold Instr.findKey
    simp [run_underlying Tryz.underlying9, hf]
  cases hx : findS p K 0 with
  | none =>
    rw [hx] at hfk hg
    simp at hg hfk
    rw [← hg]
    simp [Instr.lookup, run_underlying Tryz.underlying157, MapKept.run_getObj_map hb, chkStr, hfk, hz, Result.andThen]
  | some r =>
    rw [hx] at hfk hg
    simp at hg hfk
    rw [← hg]
    simp [Instr.lookup, run_underlying Tryz.underlying157, MapKept.run_getObj_map hb, chkStr, hfk, Result.andThen]
theorem kp_setMapS (w : World) (mb : Nat) (o : Obj) : Kp (fun b => b = mb) w { w with heap := w.heap.setIfInBounds mb o } := by
  refine ⟨rfl, rfl, rfl, by simp, fun k hk hne => ?_⟩
  have : mb ≠ k := fun e => hne e.symm
  simp [Array.getElem?_setIfInBounds, this]
theorem nm_tx (s : ByteArray) {p : Nat} (hp : plc nms (bl s) = p) (h : p < 11) : s = tx (nms.getD p []) := by
  have h2 := plc_inv (bl s) nms p hp h
  refine str_ext ?_
  rw [bl_tx, List.getD_eq_getElem?_getD, h2]; rfl
theorem staysS (s : ByteArray) (w : World) : (Instr.keyThatStays (.string s) (.string s)).run Tryz.prog w = .ok (.string s) w := by
  have : Instr.sameBits 10000 (.string s) (.string s) = true := by simp [Instr.sameBits, ba_beq]
  simp [Instr.keyThatStays, this]
set_option maxRecDepth 100000 in
theorem run_putS {w : World} {mb : Nat} {K : List (Nat × Nat)} (h : MapS w mb K) (s : ByteArray) {p : Nat} (hp : plc nms (bl s) = p) (hp11 : p < 11) (u : Nat) : ∃ w' K', (Instr.mapUpdate 157 (.map (some mb)) (.string s) (.int .i64 u)).run Tryz.prog w = .ok () w' ∧ MapS w' mb K' ∧ (∀ q, getS K' q = if q = p then u else getS K q) ∧ Kp (fun b => b = mb) w w' := by
  obtain ⟨es, clock, hb, h1, h2⟩ := h
  have hlt := (Array.getElem?_eq_some_iff.1 hb).1
  have hst := nm_tx s hp hp11
  have hst' : tx (nms[p]?.getD []) = s := by rw [← List.getD_eq_getElem?_getD]; exact hst.symm
  have hf := find_nm s hp es.toList K 0 h1 h2
  have hfk : (Instr.findKey 9 (.string s) es.toList).run Tryz.prog w = .ok ((findS p K 0).map fun r => (r.1, .int .i64 (r.2 : Int))) w := by
    unfold Instr.findKey
    simp [run_underlying Tryz.underlying9, hf]
  cases hx : findS p K 0 with
  | none =>
    rw [hx] at hfk
    simp at hfk
    have hno := find_noneS hx
    refine ⟨_, K ++ [(p, u)], ?_, ⟨es.push { key := .string s, val := .int .i64 u, born := clock }, clock + 1, ?_, ?_, ?_⟩, fun q => get_pushS q hno, kp_setMapS w mb (.map (es.push { key := .string s, val := .int .i64 u, born := clock }) (clock + 1))⟩
    · simp [Instr.mapUpdate, run_underlying Tryz.underlying157, MapKept.run_getObj_map hb, chkStr, hfk, Result.andThen, MapKept.run_setObj_map _ hb]
    · simp [Array.getElem?_setIfInBounds, hlt]
    · simp only [Array.toList_push, List.map_append, h1, List.map_cons, List.map_nil]
      rw [← hst]
    · intro x hx2
      rcases List.mem_append.1 hx2 with hx2 | hx2
      · exact h2 x hx2
      · simp at hx2; subst hx2; exact hp11
  | some r =>
    obtain ⟨j, v⟩ := r
    rw [hx] at hfk
    simp at hfk
    obtain ⟨m, hm, hk, hl⟩ := find_someS hx
    rw [Nat.zero_add] at hm
    subst hm
    have hkey : (es[j]?).map (·.key) = some (.string s) := by
      have h3 : (es.toList.map (fun e => (e.key, e.val)))[j]? = some (.string s, .int .i64 v) := by rw [h1, List.getElem?_map, hk]; simp [hst']
      rw [List.getElem?_map, Array.getElem?_toList] at h3
      cases he : es[j]? with
      | none => rw [he] at h3; cases h3
      | some e => rw [he] at h3; simp at h3; simp [h3.1]
    refine ⟨_, K.set j (p, u), ?_, ⟨es.modify j fun e => { e with key := .string s, val := .int .i64 u }, clock, ?_, ?_, ?_⟩, fun q => hl q u, kp_setMapS w mb (.map (es.modify j fun e => { e with key := .string s, val := .int .i64 u }) clock)⟩
    · simp [Instr.mapUpdate, run_underlying Tryz.underlying157, MapKept.run_getObj_map hb, chkStr, hfk, hkey, staysS, Result.andThen, MapKept.run_setObj_map _ hb]
    · simp [Array.getElem?_setIfInBounds, hlt]
    · apply List.ext_getElem?
      intro i
      have h3 := congrArg (fun l => l[i]?) h1
      simp only [List.getElem?_map, Array.getElem?_toList] at h3 ⊢
      rw [Array.getElem?_modify, List.getElem?_set]
      by_cases e : j = i
      · subst e
        have hjl : j < K.length := (List.getElem?_eq_some_iff.1 hk).1
        cases he : es[j]? with
        | none => rw [he] at hkey; cases hkey
        | some x => simp [hjl, hst']
      · simp only [if_neg e]; exact h3
    · intro x hx2
      rcases List.mem_or_eq_of_mem_set hx2 with hx2 | hx2
      · exact h2 x hx2
      · subst hx2; exact hp11
end Go.Proofs.YtlaakhfgidjofaaGreatDoor
