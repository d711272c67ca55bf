/- Layer 9 in plain Lean: a heap of entries is the list of these in order. Names no function of the program. -/
import Derived.WalkKit
import Derived.Test.YtlaakhfgidjofaaGreatDoorMSnapNobodyF1
import Derived.Test.YtlaakhfgidjofaaGreatDoorMSnapNobodyF2
import Derived.Test.YtlaakhfgidjofaaGreatDoorShelf
import Derived.Test.YtlaakhfgidjofaaGreatDoorMSnapNobodyF13
import Derived.Test.YtlaakhfgidjofaaGreatDoorMSnapNobodyF5
import Derived.Deep.MidRow
import Derived.BigQuiet
import Derived.Deep.QuietTactic
import Derived.Deep.RegionHeld3
import Derived.Deep.Cut
import Derived.Laws.MakeOwn
import Derived.Lib.SliceRun
import Derived.Test.YtlaakhfgidjofaaGreatDoorMSnapNobodyF0
import Derived.Test.YtlaakhfgidjofaaGreatDoorProg
import Derived.Laws.Externs
namespace Go.Proofs.YtlaakhfgidjofaaGreatDoor
set_option linter.unusedVariables false
set_option linter.unusedSimpArgs false
structure En (α : Type) where
  rank : Nat
  came : Nat
  x : α
variable {α : Type}
def ahd (a b : En α) : Bool := decide (a.rank < b.rank) || (decide (a.rank = b.rank) && decide (a.came < b.came))
theorem ahd_iff {a b : En α} : ahd a b = true ↔ a.rank < b.rank ∨ (a.rank = b.rank ∧ a.came < b.came) := by unfold ahd; simp
theorem ahd_not {a b : En α} : ahd a b = false ↔ ¬ (a.rank < b.rank ∨ (a.rank = b.rank ∧ a.came < b.came)) := by rw [← ahd_iff]; simp
theorem ahd_trans {a b c : En α} (h : ahd a b = false) (g : ahd b c = false) : ahd a c = false := by
  rw [ahd_not] at *; omega
theorem ahd_refl (a : En α) : ahd a a = false := by rw [ahd_not]; omega
def atE (z : En α) (l : List (En α)) (i : Nat) : En α := (l[i]?).getD z
theorem atE_get {z : En α} {l : List (En α)} {i : Nat} (h : i < l.length) : atE z l i = l[i] := by unfold atE; simp [h]
def HeapOk (z : En α) (l : List (En α)) : Prop := ∀ i, i < l.length → 0 < i → ahd (atE z l i) (atE z l ((i - 1) / 2)) = false
theorem root_least {z : En α} {l : List (En α)} (h : HeapOk z l) : ∀ (n j : Nat), j ≤ n → j < l.length → ahd (atE z l j) (atE z l 0) = false
  | 0, j, hn, _ => by
    have : j = 0 := by omega
    subst this; exact ahd_refl _
  | n + 1, j, hn, hj => by
    by_cases e : j = 0
    · subst e; exact ahd_refl _
    · exact ahd_trans (h j hj (by omega)) (root_least h n ((j - 1) / 2) (by omega) (by omega))
def Srt (S : List (En α)) : Prop := S.Pairwise fun a b => ahd a b = true
def insE : List (En α) → En α → List (En α)
  | [], e => [e]
  | y :: l, e => if e.rank < y.rank then e :: y :: l else y :: insE l e
theorem insE_perm (e : En α) : ∀ S : List (En α), (insE S e).Perm (e :: S)
  | [] => List.Perm.refl _
  | y :: l => by
    unfold insE
    split
    · exact List.Perm.refl _
    · exact ((insE_perm e l).cons y).trans (List.Perm.swap _ _ _)
theorem insE_srt {e : En α} : ∀ {S : List (En α)}, Srt S → (∀ s ∈ S, s.came < e.came) → Srt (insE S e)
  | [], _, _ => by unfold insE Srt; simp
  | y :: l, h, hc => by
    unfold Srt at h
    rw [List.pairwise_cons] at h
    unfold insE
    split
    · rename_i hlt
      unfold Srt
      rw [List.pairwise_cons, List.pairwise_cons]
      refine ⟨fun a ha => ?_, h.1, h.2⟩
      rcases List.mem_cons.1 ha with rfl | ha
      · rw [ahd_iff]; exact .inl hlt
      · have h1 := h.1 a ha
        rw [ahd_iff] at h1 ⊢; omega
    · rename_i hlt
      have ih := insE_srt (e := e) (S := l) h.2 (fun s hs => hc s (by simp [hs]))
      unfold Srt at ih ⊢
      rw [List.pairwise_cons]
      refine ⟨fun a ha => ?_, ih⟩
      rcases List.mem_cons.1 ((insE_perm e l).mem_iff.1 ha) with rfl | ha
      · have := hc y (by simp)
        rw [ahd_iff]; omega
      · exact h.1 a ha
structure HpR (z : En α) (n : Nat) (l S : List (En α)) : Prop where
  heap : HeapOk z l
  perm : l.Perm S
  srt : Srt S
  came : ∀ s ∈ S, s.came < n
theorem HpR.nil (z : En α) (n : Nat) : HpR z n [] [] := ⟨fun i h => by simp at h, List.Perm.refl _, List.Pairwise.nil, fun s h => by cases h⟩
theorem HpR.len {z : En α} {n : Nat} {l S : List (En α)} (h : HpR z n l S) : l.length = S.length := h.perm.length_eq
theorem HpR.head {z : En α} {n : Nat} {l S : List (En α)} (h : HpR z n l S) (h0 : 0 < l.length) : ∃ T, S = atE z l 0 :: T := by
  cases S with
  | nil => have := h.len; rw [List.length_nil] at this; omega
  | cons s T =>
    refine ⟨T, ?_⟩
    have h1 : s ∈ l := h.perm.mem_iff.2 (by simp)
    obtain ⟨j, hj, e⟩ := List.getElem_of_mem h1
    have h2 := root_least h.heap j j (Nat.le_refl _) hj
    rw [atE_get hj, e] at h2
    have h3 : atE z l 0 ∈ s :: T := h.perm.mem_iff.1 (by rw [atE_get h0]; exact List.getElem_mem h0)
    rcases List.mem_cons.1 h3 with h3 | h3
    · rw [h3]
    · have := h.srt
      unfold Srt at this
      rw [List.pairwise_cons] at this
      rw [this.1 _ h3] at h2; cases h2
theorem HpR.push {z : En α} {n : Nat} {l l' S : List (En α)} {e : En α} (h : HpR z n l S) (hn : e.came = n) (hp : l'.Perm (l ++ [e])) (hh : HeapOk z l') : HpR z (n + 1) l' (insE S e) := by
  refine ⟨hh, ?_, insE_srt h.srt (fun s hs => by rw [hn]; exact h.came s hs), fun s hs => ?_⟩
  · have h1 : (l ++ [e]).Perm (e :: l) := List.perm_append_comm
    exact hp.trans (h1.trans ((h.perm.cons e).trans (insE_perm e S).symm))
  · rcases List.mem_cons.1 ((insE_perm e S).mem_iff.1 hs) with rfl | hs
    · omega
    · have := h.came s hs; omega
theorem HpR.pop {z : En α} {n : Nat} {l l' S T : List (En α)} (h : HpR z n l S) (hS : S = atE z l 0 :: T) (hp : (atE z l 0 :: l').Perm l) (hh : HeapOk z l') : HpR z n l' T := by
  subst hS
  refine ⟨hh, (List.perm_cons _).1 (hp.trans h.perm), ?_, fun s hs => h.came s (by simp [hs])⟩
  have := h.srt
  unfold Srt at this
  rw [List.pairwise_cons] at this
  exact this.2
end Go.Proofs.YtlaakhfgidjofaaGreatDoor

namespace Go.Proofs.YtlaakhfgidjofaaGreatDoor
set_option linter.unusedVariables false
set_option linter.unusedSimpArgs false
open Go Go.RowKit Go.Shelf
structure Pk where
  flow : Nat
  id : Nat
  len : Nat
def enP (p : Pk) : List Value := [.int .u32 p.flow, .int .u32 p.id, .int .u64 p.len]
def enE (e : En Pk) : List Value := [.int .u64 e.rank, .int .u64 e.came] ++ enP e.x

theorem load_at {w0 : World} {ty : TypeId} {o : Oper} {x : Operand} {a : Act} {b off : Nat} {v : Value} (ho : o.op = .load ty x) (hx : a.eval x = .pointer (some ⟨b, off, none⟩))
    (h : ∀ W, Kp none' w0 W → (Instr.loadAt ty (.pointer (some ⟨b, off, none⟩))).run Tryz.prog W = .ok v W) : ∀ W, Kp none' w0 W → (execOp a.eval o).run Tryz.prog W = .ok (.value v) W := fun W hK => by
  have h2 := h W hK
  unfold execOp
  simp only [ho, hx, Sem.run_bind, Sem.run_pure, Result.andThen_ok, h2]



structure HMem (w : World) (B hb : Nat) (vc : Value) (came room : Nat) (l : List (En Pk)) : Prop where
  top : Blk w hb [vc, .int .u64 came, .int .i64 room] 240
  row : w.ownsRow B 349 5 vc l.length (l.flatMap enE)
def HF (hb : Nat) (vc : Value) : Nat → Prop := fun b => b = hb ∨ vc.ownBlock = some b
theorem HMem.kp {S : Nat → Prop} {w w' : World} {B hb : Nat} {vc : Value} {came room : Nat} {l : List (En Pk)} (h : HMem w B hb vc came room l) (k : Kp S w w') (hs : ∀ b, HF hb vc b → ¬ S b) : HMem w' B hb vc came room l :=
  ⟨h.top.kp k (hs _ (.inl rfl)), own_kp h.row k (fun b hb => hs b (.inr hb))⟩
theorem HMem.old {w w' : World} {B hb : Nat} {vc : Value} {came room : Nat} {l : List (En Pk)} (h : HMem w B hb vc came room l) (k : Kp none' w w') : HMem w' B hb vc came room l := h.kp k (fun _ _ x => x)
theorem HMem.lt {w : World} {B hb : Nat} {vc : Value} {came room : Nat} {l : List (En Pk)} (h : HMem w B hb vc came room l) {b : Nat} (hb : HF hb vc b) : b < w.heap.size := by
  rcases hb with rfl | hb
  · exact h.top.lt
  · exact (own_block h.row hb).2
set_option maxHeartbeats 400000 in
theorem hLen (w : World) (B hb : Nat) (vc : Value) (came room : Nat) (l : List (En Pk)) (h : HMem w B hb vc came room l) : Calls Tryz.prog 214 #[.pointer (some ⟨hb, 0, none⟩)] w fun e w' => e = .returned (.int .i64 l.length) ∧ w = w' := by
  have c := h.top.cell 0 rfl
  obtain ⟨ao, cap, rfl⟩ := own_shape h.row
  clear h
  go_enter Tryz.func214, Tryz.ntmps214
  go_wp2
  go_ret
  exact ⟨rfl, rfl⟩
set_option maxHeartbeats 400000 in
theorem hNew (room : Nat) (h1 : 1 ≤ room) (h2 : room ≤ 4096) (w : World) : Calls Tryz.prog 81 #[.int .i64 room] w fun e w' => ∃ hb, e = .returned (.tuple #[.pointer (some ⟨hb, 0, none⟩), .int .i64 0]) ∧ HMem w' w.heap.size hb (.slice none 0 0) 0 room [] ∧ w.heap.size ≤ hb ∧ Kp none' w w' := by
  have h1' : ¬ (room : Int) < 1 := by omega
  have h2' : ¬ (room : Int) > 4096 := by omega
  go_enter Tryz.func81, Tryz.ntmps81
  go_wp2
  go_ret2
  exact ⟨_, rfl, ⟨Blk.new _ _ _, rfl, .inl ⟨rfl, rfl⟩⟩, Nat.le_refl _, (Kp.refl _ _).alloc _⟩
def zPk : Pk := ⟨0, 0, 0⟩
def zEn : En Pk := ⟨0, 0, zPk⟩

end Go.Proofs.YtlaakhfgidjofaaGreatDoor

namespace Go.Proofs.YtlaakhfgidjofaaGreatDoor
set_option linter.unusedVariables false
set_option linter.unusedSimpArgs false
open Go.RowKit
def Nw (w : World) (F F' : Nat → Prop) : Prop := ∀ b, F' b → F b ∨ w.heap.size ≤ b
theorem Nw.refl (w : World) (F : Nat → Prop) : Nw w F F := fun _ h => .inl h
theorem Nw.trans {w w' : World} {F F' F'' : Nat → Prop} (h : Nw w F F') (h' : Nw w' F' F'') (hs : w.heap.size ≤ w'.heap.size) : Nw w F F'' := fun b hb => by
  rcases h' b hb with h1 | h1
  · exact h b h1
  · exact .inr (by omega)
theorem Nw.apart {w : World} {F F' G : Nat → Prop} (h : Nw w F F') (hG : ∀ b, G b → b < w.heap.size) (hd : ∀ b, G b → ¬ F b) : ∀ b, G b → ¬ F' b := fun b hg hf => by
  rcases h b hf with h1 | h1
  · exact hd b hg h1
  · have := hG b hg; omega
theorem own_grownF {w w1 : World} {base : Nat} {e : TypeId} {size n : Nat} {v : Value} {row : Option Nat} {xs : List Value} (h : w.ownsRow base e size v n xs) (hg : w.grownBy w1 row) (hne : ∀ b, v.ownBlock = some b → row ≠ some b) : w1.ownsRow base e size v n xs := by
  refine ⟨h.1, ?_⟩
  rcases h.2 with ⟨rfl, rfl⟩ | ⟨g, cap, cur, rfl, hb, hh, r⟩
  · exact .inl ⟨rfl, rfl⟩
  · exact .inr ⟨g, cap, cur, rfl, hb, (hg.block g (Array.getElem?_eq_some_iff.1 hh).1 (fun e => hne g rfl e.symm)).trans hh, r⟩
end Go.Proofs.YtlaakhfgidjofaaGreatDoor

namespace Go.Proofs.YtlaakhfgidjofaaGreatDoor
set_option linter.unusedVariables false
set_option linter.unusedSimpArgs false
open Go Go.RowKit Go.Shelf
def Hp (w : World) (F : Nat → Prop) (hb room n : Nat) (S : List (En Pk)) : Prop := ∃ vc l, F = HF hb vc ∧ HMem w 0 hb vc n room l ∧ HpR zEn n l S ∧ S.length ≤ room ∧ room ≤ 4096
theorem Hp.kp {T : Nat → Prop} {w w' : World} {F : Nat → Prop} {hb room n : Nat} {S : List (En Pk)} (h : Hp w F hb room n S) (k : Kp T w w') (hT : ∀ b, F b → ¬ T b) : Hp w' F hb room n S := by
  obtain ⟨vc, l, rfl, hm, hr⟩ := h
  exact ⟨vc, l, rfl, hm.kp k hT, hr⟩
theorem Hp.old {w w' : World} {F : Nat → Prop} {hb room n : Nat} {S : List (En Pk)} (h : Hp w F hb room n S) (k : Kp none' w w') : Hp w' F hb room n S := h.kp k (fun _ _ x => x)
theorem Hp.lt {w : World} {F : Nat → Prop} {hb room n : Nat} {S : List (En Pk)} (h : Hp w F hb room n S) {b : Nat} (hF : F b) : b < w.heap.size := by
  obtain ⟨vc, l, rfl, hm, hr⟩ := h
  exact hm.lt hF
theorem hpNew (room : Nat) (h1 : 1 ≤ room) (h2 : room ≤ 4096) (w : World) : Calls Tryz.prog 81 #[.int .i64 room] w fun e w' => ∃ hb F, e = .returned (.tuple #[.pointer (some ⟨hb, 0, none⟩), .int .i64 0]) ∧ Hp w' F hb room 0 [] ∧ (∀ b, F b → w.heap.size ≤ b) ∧ Kp none' w w' := by
  refine (hNew room h1 h2 w).mono ?_
  rintro e w' ⟨hb, he, hm, hl, hk⟩
  refine ⟨hb, _, he, ⟨.slice none 0 0, [], rfl, ⟨hm.top, rfl, .inl ⟨rfl, rfl⟩⟩, HpR.nil _ _, Nat.zero_le _, h2⟩, fun b h => ?_, hk⟩
  rcases h with rfl | h
  · exact hl
  · simp [Value.ownBlock] at h
end Go.Proofs.YtlaakhfgidjofaaGreatDoor

namespace Go.Proofs.YtlaakhfgidjofaaGreatDoor
set_option linter.unusedVariables false
set_option linter.unusedSimpArgs false
variable {α : Type}
def totQ (Qs : List (List α)) : Nat := (Qs.map List.length).sum
def Upw (bs : List Nat) : Prop := ∀ i, i < bs.length → bs.getD 0 0 ≤ bs.getD i 0
end Go.Proofs.YtlaakhfgidjofaaGreatDoor

namespace Go.Proofs.YtlaakhfgidjofaaGreatDoor
set_option linter.unusedVariables false
set_option linter.unusedSimpArgs false
variable {α : Type}
def slN (a fr i : Nat) : Nat := if fr + i < a then fr + i else fr + i - a
theorem slN_lt {a fr i : Nat} (h : fr < a) (hi : i ≤ a) : slN a fr i < a := by unfold slN; split <;> omega
theorem slN_inj {a fr i j : Nat} (h : fr < a) (hi : i < a) (hj : j < a) (e : slN a fr i = slN a fr j) : i = j := by
  unfold slN at e; split at e <;> split at e <;> omega
theorem slN_next {a fr i : Nat} (h : fr < a) (hi : i + 1 ≤ a) : slN a (slN a fr 1) i = slN a fr (i + 1) := by
  unfold slN; split <;> split <;> split <;> omega
structure RgOk (S : List α) (fr n room : Nat) (Q : List α) : Prop where
  len : Q.length = n
  n_le : n ≤ S.length
  fits : S.length ≤ room
  frb : fr < S.length ∨ (S.length = 0 ∧ fr = 0)
  get : ∀ i, i < n → S[slN S.length fr i]? = Q[i]?
theorem RgOk.nil (room : Nat) : RgOk ([] : List α) 0 0 room [] := ⟨rfl, Nat.le_refl _, Nat.zero_le _, .inr ⟨rfl, rfl⟩, fun i h => by omega⟩
theorem RgOk.frlt {S : List α} {fr n room : Nat} {Q : List α} (h : RgOk S fr n room Q) (hn : 0 < S.length) : fr < S.length := by rcases h.frb with h | h; exact h; omega
theorem RgOk.put {S : List α} {fr n room : Nat} {Q : List α} (h : RgOk S fr n room Q) (hn : n < S.length) (x : α) : RgOk (S.set (slN S.length fr n) x) fr (n + 1) room (Q ++ [x]) := by
  have hf := h.frlt (by omega)
  have hl : (S.set (slN S.length fr n) x).length = S.length := List.length_set
  refine ⟨by simp [h.len], by rw [hl]; omega, by rw [hl]; exact h.fits, by rw [hl]; exact .inl hf, fun i hi => ?_⟩
  rw [hl]
  by_cases e : i = n
  · subst e
    rw [List.getElem?_set_self (slN_lt (a := S.length) (i := i) hf (by omega)), List.getElem?_append_right (by rw [h.len]; exact Nat.le_refl _), h.len]; simp
  · rw [List.getElem?_set_ne (fun e2 => e (slN_inj hf (by omega) (by omega) e2.symm)), List.getElem?_append_left (by rw [h.len]; omega)]
    exact h.get i (by omega)
theorem RgOk.take {S : List α} {fr n room : Nat} {q : α} {Q : List α} (h : RgOk S fr n room (q :: Q)) (z : α) : S[fr]? = some q ∧ RgOk (S.set fr z) (slN S.length fr 1) (n - 1) room Q := by
  have hn := h.len
  rw [List.length_cons] at hn
  have hnl := h.n_le
  have hf := h.frlt (by omega)
  have h0 := h.get 0 (by omega)
  have e0 : slN S.length fr 0 = fr := by unfold slN; rw [if_pos (by omega)]; omega
  rw [e0] at h0
  refine ⟨by simpa using h0, by omega, by rw [List.length_set]; omega, by rw [List.length_set]; exact h.fits, .inl (by rw [List.length_set]; exact slN_lt hf (by omega)), fun i hi => ?_⟩
  rw [List.length_set, slN_next hf (by omega)]
  have h1 := h.get (i + 1) (by omega)
  rw [List.getElem?_cons_succ] at h1
  rw [List.getElem?_set_ne, h1]
  intro e
  have : (0 : Nat) = i + 1 := slN_inj hf (by omega) (by omega) (by rw [e0]; exact e)
  omega
end Go.Proofs.YtlaakhfgidjofaaGreatDoor

namespace Go.Proofs.YtlaakhfgidjofaaGreatDoor
set_option linter.unusedVariables false
set_option linter.unusedSimpArgs false
open Go.RowKit
theorem made_flat {α : Type} (en : α → List Value) (sz : Nat) (hl : ∀ a, (en a).length = sz) (hp : 0 < sz) (a : α) (n : Nat) : madeCells (en a).toArray (n * sz) = ((List.replicate n a).flatMap en).toArray := by
  apply Array.ext
  · rw [size_madeCells, List.size_toArray, flat_len en sz hl, List.length_replicate]
  · intro i h1 h2
    rw [size_madeCells] at h1
    have hr : i % sz < sz := Nat.mod_lt _ hp
    have hd : i / sz < n := (Nat.div_lt_iff_lt_mul hp).2 h1
    have hdm : i / sz * sz + i % sz = i := by rw [Nat.mul_comm]; exact Nat.div_add_mod i sz
    have h3 := flat_get en sz hl (List.replicate n a) (i / sz) (i % sz) hr
    rw [hdm, List.getElem?_replicate, if_pos hd] at h3
    have hi : i % sz < (en a).length := by rw [hl]; exact hr
    simp only [madeCells, Array.getElem_map, Array.getElem_range, List.size_toArray, hl]
    have h4 : ((List.replicate n a).flatMap en)[i]? = some ((en a)[i % sz]'hi) := by rw [h3]; simp [hi]
    have h5 : ((List.replicate n a).flatMap en).toArray[i] = (en a)[i % sz]'hi := by
      have := (List.getElem?_eq_some_iff.1 h4).2
      simpa using this
    rw [h5]
    simp [hi]
theorem run_make_flat {P : Program} {t e : TypeId} {z : Value} {sz bytes : Nat} (T : SlT P t e z sz bytes) {α : Type} (en : α → List Value) (hl : ∀ a, (en a).length = sz) (a : α) (ha : z.cells = (en a).toArray) (n : Nat) (hb : bytes * n ≤ 281474976710656) (hn : n ≤ 9223372036854775807) (w : World) :
    (Instr.makeSlice t (.int .i64 (n : Int)) (.int .i64 (n : Int))).run P w = .ok (.slice (some ⟨w.heap.size, 0, none⟩) n n) (w.alloc (.cells ((List.replicate n a).flatMap en).toArray e)) := by
  obtain ⟨i, hi, hzz⟩ := Option.map_eq_some_iff.1 T.info
  simp only [Prod.mk.injEq] at hzz
  obtain ⟨hz, hs, hbb⟩ := hzz
  have hb' : (bytes : Int) * (n : Int) ≤ 281474976710656 := by
    have h : ((bytes * n : Nat) : Int) ≤ 281474976710656 := by omega
    rwa [Int.natCast_mul] at h
  have hr := run_make (P := P) w t e i z T.ht hi hz .i64 .i64 n n (by omega) (Int.le_refl _) (by rw [hbb]; exact hb') (by omega)
  rw [hs, ha] at hr
  simp only [Int.toNat_natCast] at hr
  rw [hr, made_flat en sz hl T.pos a n]
end Go.Proofs.YtlaakhfgidjofaaGreatDoor

namespace Go.Proofs.YtlaakhfgidjofaaGreatDoor
set_option linter.unusedVariables false
set_option linter.unusedSimpArgs false
open Go Go.RowKit Go.Shelf
structure It where
  rank : Nat
  x : Pk
def enI (i : It) : List Value := [.int .u64 i.rank, .int .u32 i.x.flow, .int .u32 i.x.id, .int .u64 i.x.len]
structure RgM (w : World) (rb : Nat) (v : Value) (S : List It) (fr n room : Nat) : Prop where
  top : Blk w rb [v, .int .i64 fr, .int .i64 n, .int .i64 room] 294
  row : w.ownsRow 0 173 4 v S.length (S.flatMap enI)
def RgF (rb : Nat) (v : Value) : Nat → Prop := fun b => b = rb ∨ v.ownBlock = some b
theorem RgM.kp {T : Nat → Prop} {w w' : World} {rb : Nat} {v : Value} {S : List It} {fr n room : Nat} (h : RgM w rb v S fr n room) (k : Kp T w w') (hT : ∀ b, RgF rb v b → ¬ T b) : RgM w' rb v S fr n room :=
  ⟨h.top.kp k (hT _ (.inl rfl)), own_kp h.row k (fun b hb => hT b (.inr hb))⟩
theorem RgM.old {w w' : World} {rb : Nat} {v : Value} {S : List It} {fr n room : Nat} (h : RgM w rb v S fr n room) (k : Kp none' w w') : RgM w' rb v S fr n room := h.kp k (fun _ _ x => x)

def Rg (w : World) (F : Nat → Prop) (rb room : Nat) (Q : List It) : Prop := ∃ v S fr n, F = RgF rb v ∧ RgM w rb v S fr n room ∧ RgOk S fr n room Q ∧ room ≤ 4096
theorem Rg.kp {T : Nat → Prop} {w w' : World} {F : Nat → Prop} {rb room : Nat} {Q : List It} (h : Rg w F rb room Q) (k : Kp T w w') (hT : ∀ b, F b → ¬ T b) : Rg w' F rb room Q := by
  obtain ⟨v, S, fr, n, rfl, hm, ok, h4⟩ := h
  exact ⟨v, S, fr, n, rfl, hm.kp k hT, ok, h4⟩
theorem Rg.old {w w' : World} {F : Nat → Prop} {rb room : Nat} {Q : List It} (h : Rg w F rb room Q) (k : Kp none' w w') : Rg w' F rb room Q := h.kp k (fun _ _ x => x)
theorem Rg.lt {w : World} {F : Nat → Prop} {rb room : Nat} {Q : List It} (h : Rg w F rb room Q) {b : Nat} (hb : F b) : b < w.heap.size := by
  obtain ⟨v, S, fr, n, rfl, hm, ok, h4⟩ := h
  rcases hb with rfl | hb
  · exact hm.top.lt
  · exact (own_block hm.row hb).2


end Go.Proofs.YtlaakhfgidjofaaGreatDoor

namespace Go.Proofs.YtlaakhfgidjofaaGreatDoor
set_option linter.unusedVariables false
set_option linter.unusedSimpArgs false
def findF : List FlR → Nat → Int
  | [], _ => -1
  | f :: r, id => if f.id = id then 0 else if findF r id < 0 then -1 else findF r id + 1
theorem findF_ge (l : List FlR) (id : Nat) : -1 ≤ findF l id ∧ findF l id < l.length := by
  induction l with
  | nil => simp [findF]
  | cons f r ih =>
    rw [List.length_cons]
    unfold findF
    by_cases h1 : f.id = id
    · rw [if_pos h1]; omega
    · rw [if_neg h1]
      by_cases h2 : findF r id < 0
      · rw [if_pos h2]; omega
      · rw [if_neg h2]; omega
end Go.Proofs.YtlaakhfgidjofaaGreatDoor

namespace Go.Proofs.YtlaakhfgidjofaaGreatDoor
set_option linter.unusedVariables false
set_option linter.unusedSimpArgs false
open Go.RowKit Go.Shelf
end Go.Proofs.YtlaakhfgidjofaaGreatDoor

namespace Go.Proofs.YtlaakhfgidjofaaGreatDoor
set_option linter.unusedVariables false
set_option linter.unusedSimpArgs false
open Go Go.RowKit Go.Shelf
theorem infoBk : (Tryz.prog.info? 95).map (·.size) = some 3 := by kernel_rfl
set_option maxHeartbeats 1000000 in
theorem bCheckOk (r b t : Nat) (h1 : 0 < r) (h2 : 0 < b) (h3 : t ≤ b) (w : World) : Calls Tryz.prog 88 #[.agg #[.int .u64 r, .int .u64 b, .int .u64 t]] w fun e w' => e = .returned (.int .i64 0) ∧ Kp none' w w' := by
  have h1' : ((r : Int) == 0) = false := by rw [beq_eq_false_iff_ne]; omega
  have h2' : ((b : Int) == 0) = false := by rw [beq_eq_false_iff_ne]; omega
  have h3' : ¬ (b : Int) < t := by omega
  go_enter Tryz.func88, Tryz.ntmps88
  go_wp2
  go_ret
  exact ⟨rfl, (Kp.refl none' w).alloc _⟩
set_option maxRecDepth 100000 in
set_option maxHeartbeats 1000000 in
theorem bNewOk (r b : Nat) (h1 : 0 < r) (h2 : 0 < b) (w : World) : Calls Tryz.prog 38 #[.int .u64 r, .int .u64 b] w fun e w' => e = .returned (.tuple #[.agg #[.int .u64 r, .int .u64 b, .int .u64 b], .int .i64 0]) ∧ Kp none' w w' := by
  go_enter Tryz.func38, Tryz.ntmps38
  go_wp2_with fail
  refine (bCheckOk r b b h1 h2 (Nat.le_refl _) _).mono ?_
  rintro e w2 ⟨rfl, hk⟩
  have hs1 : (w.alloc (.cells #[.int .u64 0, .int .u64 0, .int .u64 0] 95)).heap.size = w.heap.size + 1 := by simp
  have HB4 := Lib.hid (((Blk.new w [.int .u64 0, .int .u64 0, .int .u64 0] 95).alloc (.cells #[.int .u64 r, .int .u64 b, .int .u64 b] 95)).kp hk (fun x => x))
  have hB6 := (Blk.new (w.alloc (.cells #[.int .u64 0, .int .u64 0, .int .u64 0] 95)) [.int .u64 r, .int .u64 b, .int .u64 b] 95).kp hk (fun x => x)
  rw [hs1] at hB6
  have HB6 := Lib.hid hB6
  have HK2 := Lib.hid ((((Kp.refl none' w).alloc (.cells #[.int .u64 0, .int .u64 0, .int .u64 0] 95)).alloc (.cells #[.int .u64 r, .int .u64 b, .int .u64 b] 95)).trans hk)
  clear hB6 hk hs1
  have y0 := HB6.out.cell 0 rfl
  have y1 := HB6.out.cell 1 rfl
  have y2 := HB6.out.cell 2 rfl
  have x0 := HB4.out.cell 0 rfl
  have x1 := HB4.out.cell 1 rfl
  have x2 := HB4.out.cell 2 rfl
  have xf := fun j => HB4.out.fz j
  go_wp2_with fail
  exact ret_row2 (by exact rfl) (((HB4.out.set 0 (.int .u64 r)).set 1 (.int .u64 b)).set 2 (.int .u64 b)) _ Tryz.underlying95 rfl infoBk (by exact rfl) ⟨rfl, ((HK2.out.set (p := ⟨w.heap.size, 0, none⟩) (.inr (Nat.le_refl _)) _).set (p := ⟨w.heap.size, 1, none⟩) (.inr (Nat.le_refl _)) _).set (p := ⟨w.heap.size, 2, none⟩) (.inr (Nat.le_refl _)) _⟩

set_option maxHeartbeats 4000000 in
theorem kClone (l : List FlR) (hl : l.length ≤ 64) (h0 : 0 < l.length) (v : Value) (w : World) (h : Sl w v l.length 5 (l.flatMap enFl)) : Calls Tryz.prog 87 #[v] w fun e w' => ∃ v', e = .returned v' ∧ w'.ownsRow w.heap.size 85 5 v' l.length (l.flatMap enFl) ∧ Kp none' w w' := by
  obtain ⟨ao, cap, rfl⟩ : ∃ ao cap, v = .slice ao l.length cap := by obtain ⟨ao, cap, rfl, _⟩ := h.is; exact ⟨_, _, rfl⟩
  have HS := Lib.hid h
  have HOF := Lib.hid (one_fl l)
  cases ao with
  | none =>
    exfalso
    obtain ⟨ao, cap', e, hc⟩ := h.is
    have hlen := h.len
    obtain ⟨b, off, e2, _⟩ := hc 0 _ (List.getElem?_eq_getElem (show 0 < (l.flatMap enFl).length by omega))
    cases e
    cases e2
  | some ad =>
    clear h
    have hnil : ∀ W : World, (binOp BinOp.eql 23 (.slice (some ad) l.length cap) (.slice none 0 0)).run Tryz.prog W = .ok (.bool false) W := fun _ => by kernel_rfl
    have hs2 := HS.out.old ((Kp.refl none' w).alloc (.cells #[] 85))
    have HS2 := Lib.hid hs2
    clear hs2
    go_enter Tryz.func87, Tryz.ntmps87
    go_wp2_with (first
      | (refine wp_appSl tFlw (.tmp 5) (.tmp 6) rfl rfl w.heap.size (own_zero w 85 5) rfl rfl HS2.out HOF.out (by omega) (by omega) (by simp) ?_; intro v8 w8 hown8 hgrow8
         have hk8 := ((Kp.refl none' w).alloc (.cells #[] 85)).grown hgrow8 (fun b hb => .inr (by cases hb; exact Nat.le_refl _))
         obtain ⟨ao8, cap8, rfl⟩ := own_shape hown8
         have HK8 := Lib.hid hk8
         have HO8 := Lib.hid hown8
         clear hown8 hgrow8 hk8))
    go_ret
    exact ⟨_, rfl, by have := HO8.out; simpa using this, HK8.out⟩
end Go.Proofs.YtlaakhfgidjofaaGreatDoor
