/- Queues with bounds (layer 12) in plain Lean. -/
import Derived.WalkKit
import Derived.Test.YtfckgddodjmbdaaGreatDoorMPortNobodyF1
import Derived.Laws.MakeOwn
import Derived.Test.YtfckgddodjmbdaaGreatDoorMPortNobodyF4
namespace Go.Proofs.YtfckgddodjmbdaaGreatDoor
set_option linter.unusedVariables false
set_option linter.unusedSimpArgs false
variable {α : Type}
/-- The last one that is not above r; 0, if all are. -/
def atB (bs : List Nat) (r : Nat) : Nat → Nat
  | 0 => 0
  | k + 1 => if bs.getD (k + 1) 0 ≤ r then k + 1 else atB bs r k
theorem atB_le (bs : List Nat) (r : Nat) : ∀ k, atB bs r k ≤ k
  | 0 => Nat.le_refl _
  | k + 1 => by unfold atB; split; exact Nat.le_refl _; have := atB_le bs r k; omega
def pushB (bs : List Nat) (r : Nat) : List Nat :=
  if atB bs r (bs.length - 1) = 0 ∧ r < bs.getD 0 0 then bs.map (fun b => b - (bs.getD 0 0 - r)) else bs.set (atB bs r (bs.length - 1)) r
def pushQ (bs : List Nat) (Qs : List (List α)) (r : Nat) (x : α) : List (List α) :=
  Qs.set (atB bs r (bs.length - 1)) (Qs.getD (atB bs r (bs.length - 1)) [] ++ [x])
/-- The first queue that is not empty. -/
def fstQ : List (List α) → Option Nat
  | [] => none
  | [] :: r => (fstQ r).map (· + 1)
  | (_ :: _) :: _ => some 0
def totQ (Qs : List (List α)) : Nat := (Qs.map List.length).sum
/-- Bounds never fall. -/
def Upw (bs : List Nat) : Prop := ∀ i, i < bs.length → bs.getD 0 0 ≤ bs.getD i 0
theorem fstQ_some {Qs : List (List α)} {i : Nat} (h : fstQ Qs = some i) : ∃ q Q, Qs[i]? = some (q :: Q) ∧ ∀ j, j < i → Qs[j]? = some [] := by
  induction Qs generalizing i with
  | nil => cases h
  | cons a r ih =>
    cases a with
    | nil =>
      simp only [fstQ, Option.map_eq_some_iff] at h
      obtain ⟨k, hk, rfl⟩ := h
      obtain ⟨q, Q, h1, h2⟩ := ih hk
      refine ⟨q, Q, by simpa using h1, fun j hj => ?_⟩
      cases j with
      | zero => rfl
      | succ j => simpa using h2 j (by omega)
    | cons q Q =>
      simp only [fstQ, Option.some.injEq] at h
      subst h
      exact ⟨q, Q, rfl, fun j hj => by omega⟩
theorem fstQ_none {Qs : List (List α)} (h : fstQ Qs = none) : ∀ j, j < Qs.length → Qs[j]? = some [] := by
  induction Qs with
  | nil => intro j hj; simp at hj
  | cons a r ih =>
    cases a with
    | nil =>
      simp only [fstQ, Option.map_eq_none_iff] at h
      intro j hj
      cases j with
      | zero => rfl
      | succ j => simpa using ih h j (by simpa using hj)
    | cons q Q => cases h
theorem fstQ_at {Qs : List (List α)} {i : Nat} {q : α} {Q : List α} (h : Qs[i]? = some (q :: Q)) (h2 : ∀ j, j < i → Qs[j]? = some []) : fstQ Qs = some i := by
  cases e : fstQ Qs with
  | none =>
    have hi : i < Qs.length := (List.getElem?_eq_some_iff.1 h).1
    rw [fstQ_none e i hi] at h; cases h
  | some k =>
    obtain ⟨q', Q', h3, h4⟩ := fstQ_some e
    by_cases h5 : k < i
    · rw [h2 k h5] at h3; cases h3
    · by_cases h6 : i < k
      · rw [h4 i h6] at h; cases h
      · have : k = i := by omega
        rw [this]
end Go.Proofs.YtfckgddodjmbdaaGreatDoor

namespace Go.Proofs.YtfckgddodjmbdaaGreatDoor
set_option linter.unusedVariables false
set_option linter.unusedSimpArgs false
variable {α : Type}
/-- The place of the i-th thing. -/
def slN (a fr i : Nat) : Nat := if fr + i < a then fr + i else fr + i - a
theorem slN_lt {a fr i : Nat} (h : fr < a) (hi : i ≤ a) : slN a fr i < a := by unfold slN; split <;> omega
theorem slN_mod {a fr i : Nat} (h : fr < a) (hi : i ≤ a) : (fr + i) % a = slN a fr i := by
  unfold slN
  by_cases h1 : fr + i < a
  · rw [if_pos h1, Nat.mod_eq_of_lt h1]
  · rw [if_neg h1, Nat.mod_eq_sub_mod (by omega), Nat.mod_eq_of_lt (by omega)]
theorem slN_inj {a fr i j : Nat} (h : fr < a) (hi : i < a) (hj : j < a) (e : slN a fr i = slN a fr j) : i = j := by
  unfold slN at e; split at e <;> split at e <;> omega
theorem slN_next {a fr i : Nat} (h : fr < a) (hi : i + 1 ≤ a) : slN a (slN a fr 1) i = slN a fr (i + 1) := by
  unfold slN; split <;> split <;> split <;> omega
/-- Slots S, the first thing's place, and the things Q in order. -/
structure RgOk (S : List α) (fr n room : Nat) (Q : List α) : Prop where
  len : Q.length = n
  n_le : n ≤ S.length
  fits : S.length ≤ room
  frb : fr < S.length ∨ (S.length = 0 ∧ fr = 0)
  get : ∀ i, i < n → S[slN S.length fr i]? = Q[i]?
theorem RgOk.nil (room : Nat) : RgOk ([] : List α) 0 0 room [] := ⟨rfl, Nat.le_refl _, Nat.zero_le _, .inr ⟨rfl, rfl⟩, fun i h => by omega⟩
theorem RgOk.frlt {S : List α} {fr n room : Nat} {Q : List α} (h : RgOk S fr n room Q) (hn : 0 < S.length) : fr < S.length := by rcases h.frb with h | h; exact h; omega
theorem RgOk.put {S : List α} {fr n room : Nat} {Q : List α} (h : RgOk S fr n room Q) (hn : n < S.length) (x : α) : RgOk (S.set (slN S.length fr n) x) fr (n + 1) room (Q ++ [x]) := by
  have hf := h.frlt (by omega)
  have hl : (S.set (slN S.length fr n) x).length = S.length := List.length_set
  refine ⟨by simp [h.len], by rw [hl]; omega, by rw [hl]; exact h.fits, by rw [hl]; exact .inl hf, fun i hi => ?_⟩
  rw [hl]
  by_cases e : i = n
  · subst e
    rw [List.getElem?_set_self (slN_lt (a := S.length) (i := i) hf (by omega)), List.getElem?_append_right (by rw [h.len]; exact Nat.le_refl _), h.len]; simp
  · rw [List.getElem?_set_ne (fun e2 => e (slN_inj hf (by omega) (by omega) e2.symm)), List.getElem?_append_left (by rw [h.len]; omega)]
    exact h.get i (by omega)
theorem RgOk.take {S : List α} {fr n room : Nat} {q : α} {Q : List α} (h : RgOk S fr n room (q :: Q)) (z : α) : S[fr]? = some q ∧ RgOk (S.set fr z) (slN S.length fr 1) (n - 1) room Q := by
  have hn := h.len
  rw [List.length_cons] at hn
  have hnl := h.n_le
  have hf := h.frlt (by omega)
  have h0 := h.get 0 (by omega)
  have e0 : slN S.length fr 0 = fr := by unfold slN; rw [if_pos (by omega)]; omega
  rw [e0] at h0
  refine ⟨by simpa using h0, by omega, by rw [List.length_set]; omega, by rw [List.length_set]; exact h.fits, .inl (by rw [List.length_set]; exact slN_lt hf (by omega)), fun i hi => ?_⟩
  rw [List.length_set, slN_next hf (by omega)]
  have h1 := h.get (i + 1) (by omega)
  rw [List.getElem?_cons_succ] at h1
  rw [List.getElem?_set_ne, h1]
  intro e
  have : (0 : Nat) = i + 1 := slN_inj hf (by omega) (by omega) (by rw [e0]; exact e)
  omega
/-- Laid anew from the first place on. -/
theorem RgOk.anew {S S2 : List α} {fr n room : Nat} {Q : List α} (h : RgOk S fr n room Q) (h1 : n < S2.length) (h2 : S2.length ≤ room) (h3 : ∀ i, i < n → S2[i]? = Q[i]?) : RgOk S2 0 n room Q :=
  ⟨h.len, by omega, h2, .inl (by omega), fun i hi => by
    have : slN S2.length 0 i = i := by unfold slN; rw [if_pos (by omega)]; omega
    rw [this]; exact h3 i hi⟩
end Go.Proofs.YtfckgddodjmbdaaGreatDoor

namespace Go.Proofs.YtfckgddodjmbdaaGreatDoor
set_option linter.unusedVariables false
set_option linter.unusedSimpArgs false
open Go.RowKit

theorem made_flat {α : Type} (en : α → List Value) (sz : Nat) (hl : ∀ a, (en a).length = sz) (hp : 0 < sz) (a : α) (n : Nat) : madeCells (en a).toArray (n * sz) = ((List.replicate n a).flatMap en).toArray := by
  apply Array.ext
  · rw [size_madeCells, List.size_toArray, flat_len en sz hl, List.length_replicate]
  · intro i h1 h2
    rw [size_madeCells] at h1
    have hr : i % sz < sz := Nat.mod_lt _ hp
    have hd : i / sz < n := (Nat.div_lt_iff_lt_mul hp).2 h1
    have hdm : i / sz * sz + i % sz = i := by rw [Nat.mul_comm]; exact Nat.div_add_mod i sz
    have h3 := flat_get en sz hl (List.replicate n a) (i / sz) (i % sz) hr
    rw [hdm, List.getElem?_replicate, if_pos hd] at h3
    have hi : i % sz < (en a).length := by rw [hl]; exact hr
    simp only [madeCells, Array.getElem_map, Array.getElem_range, List.size_toArray, hl]
    have h4 : ((List.replicate n a).flatMap en)[i]? = some ((en a)[i % sz]'hi) := by rw [h3]; simp [hi]
    have h5 : ((List.replicate n a).flatMap en).toArray[i] = (en a)[i % sz]'hi := by
      have := (List.getElem?_eq_some_iff.1 h4).2
      simpa using this
    rw [h5]
    simp [hi]
theorem run_make_flat {P : Program} {t e : TypeId} {z : Value} {sz bytes : Nat} (T : SlT P t e z sz bytes) {α : Type} (en : α → List Value) (hl : ∀ a, (en a).length = sz) (a : α) (ha : z.cells = (en a).toArray) (n : Nat) (hb : bytes * n ≤ 281474976710656) (hn : n ≤ 9223372036854775807) (w : World) :
    (Instr.makeSlice t (.int .i64 (n : Int)) (.int .i64 (n : Int))).run P w = .ok (.slice (some ⟨w.heap.size, 0, none⟩) n n) (w.alloc (.cells ((List.replicate n a).flatMap en).toArray e)) := by
  obtain ⟨i, hi, hzz⟩ := Option.map_eq_some_iff.1 T.info
  simp only [Prod.mk.injEq] at hzz
  obtain ⟨hz, hs, hbb⟩ := hzz
  have hb' : (bytes : Int) * (n : Int) ≤ 281474976710656 := by
    have h : ((bytes * n : Nat) : Int) ≤ 281474976710656 := by omega
    rwa [Int.natCast_mul] at h
  have hr := run_make (P := P) w t e i z T.ht hi hz .i64 .i64 n n (by omega) (Int.le_refl _) (by rw [hbb]; exact hb') (by omega)
  rw [hs, ha] at hr
  simp only [Int.toNat_natCast] at hr
  rw [hr, made_flat en sz hl T.pos a n]
end Go.Proofs.YtfckgddodjmbdaaGreatDoor

namespace Go.Proofs.YtfckgddodjmbdaaGreatDoor
set_option linter.unusedVariables false
set_option linter.unusedSimpArgs false
open Go Go.RowKit Go.Shelf

/-- A thing with its rank. -/
structure It where
  rank : Nat
  x : Pk
def enI (i : It) : List Value := [.int .u64 i.rank, .int .u32 i.x.flow, .int .u32 i.x.id, .int .u64 i.x.len]
theorem enI_len (i : It) : (enI i).length = 4 := rfl
def zIt : It := ⟨0, zPk⟩
theorem infoIt (i : It) : (Tryz.prog.info? 314).map (·.size) = some (enI i).length := by rw [enI_len]; kernel_rfl
theorem tIt : SlT Tryz.prog 325 314 (.agg #[.int .u64 0, .int .u32 0, .int .u32 0, .int .u64 0]) 4 24 := ⟨Tryz.underlying325, by kernel_rfl, rfl, by decide⟩
structure RgM (w : World) (rb : Nat) (v : Value) (S : List It) (fr n room : Nat) : Prop where
  top : Blk w rb [v, .int .i64 fr, .int .i64 n, .int .i64 room] 327
  row : w.ownsRow 0 314 4 v S.length (S.flatMap enI)
def RgF (rb : Nat) (v : Value) : Nat → Prop := fun b => b = rb ∨ v.ownBlock = some b
theorem RgM.kp {T : Nat → Prop} {w w' : World} {rb : Nat} {v : Value} {S : List It} {fr n room : Nat} (h : RgM w rb v S fr n room) (k : Kp T w w') (hT : ∀ b, RgF rb v b → ¬ T b) : RgM w' rb v S fr n room :=
  ⟨h.top.kp k (hT _ (.inl rfl)), own_kp h.row k (fun b hb => hT b (.inr hb))⟩
theorem RgM.old {w w' : World} {rb : Nat} {v : Value} {S : List It} {fr n room : Nat} (h : RgM w rb v S fr n room) (k : Kp none' w w') : RgM w' rb v S fr n room := h.kp k (fun _ _ x => x)
set_option maxHeartbeats 1000000 in
theorem rgLen {w : World} {rb : Nat} {v : Value} {S : List It} {fr n room : Nat} (h : RgM w rb v S fr n room) : Calls Tryz.prog 233 #[.pointer (some ⟨rb, 0, none⟩)] w fun e w' => e = .returned (.int .i64 n) ∧ w = w' := by
  have c := h.top.cell 2 rfl
  clear h
  go_enter Tryz.func233, Tryz.ntmps233
  go_wp2
  go_ret
  exact ⟨rfl, rfl⟩
set_option maxHeartbeats 1000000 in
theorem rgRoom {w : World} {rb : Nat} {v : Value} {S : List It} {fr n room : Nat} (h : RgM w rb v S fr n room) (h1 : n ≤ room) (h2 : room ≤ 65536) : Calls Tryz.prog 236 #[.pointer (some ⟨rb, 0, none⟩)] w fun e w' => e = .returned (.int .i64 (room - n : Nat)) ∧ Kp none' w w' := by
  have c := h.top.cell 2 rfl
  have c3 := h.top.cell 3 rfl
  obtain ⟨q, hq⟩ : ∃ q, room - n = q := ⟨_, rfl⟩
  have hqi : (room : Int) - n = q := by omega
  rw [hq]
  clear h hq
  go_enter Tryz.func236, Tryz.ntmps236
  go_wp2_with fail
  go_region
  all_goals
    go_wp2_with fail
    go_ret
    exact ⟨rfl, (Kp.refl none' w).drew⟩
set_option maxHeartbeats 1000000 in
theorem rgSlot {w : World} {rb : Nat} {v : Value} {S : List It} {fr n room : Nat} (h : RgM w rb v S fr n room) (hf : fr < S.length) (hS : S.length ≤ 65536) (i : Nat) (hi : i ≤ S.length) : Calls Tryz.prog 235 #[.pointer (some ⟨rb, 0, none⟩), .int .i64 i] w fun e w' => e = .returned (.int .i64 (slN S.length fr i)) ∧ Kp none' w w' := by
  have c0 := h.top.cell 0 rfl
  have c1 := h.top.cell 1 rfl
  obtain ⟨g, cap, rfl, _⟩ := own_shape1 h.row (by omega)
  have hm := slN_mod hf hi
  have HM : Hid (((fr : Int) + i).tmod (S.length : Int) = (slN S.length fr i : Nat)) := by
    show _ = _
    rw [← hm, Int.tmod_eq_emod_of_nonneg (by omega)]; simp
  have hN : (0 : Int) < S.length := by omega
  have hlt := slN_lt hf hi
  clear h hm
  generalize slN S.length fr i = R at *
  generalize S.length = N at *
  have hm2 := HM.out
  go_enter Tryz.func235, Tryz.ntmps235
  go_wp2_with fail
  go_region
  all_goals
    go_wp2_with fail
    go_ret
    trace_state
    exact ⟨rfl, (Kp.refl none' w).drew⟩
end Go.Proofs.YtfckgddodjmbdaaGreatDoor
