/- The plain law of layer 15: a list by rising numbers is the table's things in order. -/
import Derived.Test.YthnlggecjdifnaaFlRd
namespace Go.Proofs.Ythnlggecjdifnaa
set_option linter.unusedVariables false
set_option linter.unusedSimpArgs false
open flowInt

structure Rel (l E : List (Nat × Int)) : Prop where
  perm : l.Perm E
  up : (l.map (·.1)).Pairwise (· < ·)
theorem Rel.nod {l E : List (Nat × Int)} (h : Rel l E) : (l.map (·.1)).Nodup := h.up.imp (fun h => Nat.ne_of_lt h)
theorem Rel.nil : Rel [] [] := ⟨List.Perm.refl _, List.Pairwise.nil⟩
theorem Rel.keys {l E : List (Nat × Int)} (h : Rel l E) (id : Nat) : id ∈ l.map (·.1) ↔ id ∈ E.map (·.1) := (h.perm.map (·.1)).mem_iff
theorem Rel.notin {l E : List (Nat × Int)} (h : Rel l E) {id : Nat} (hn : id ∉ l.map (·.1)) : ∀ y, (id, y) ∉ E := fun y hy => hn ((h.keys id).2 (List.mem_map.2 ⟨_, hy, rfl⟩))
theorem Rel.isin {l E : List (Nat × Int)} (h : Rel l E) {id : Nat} (hn : id ∈ l.map (·.1)) : ∃ y, (id, y) ∈ l ∧ (id, y) ∈ E := by
  obtain ⟨p, hp, rfl⟩ := List.mem_map.1 hn
  exact ⟨p.2, hp, h.perm.mem_iff.1 hp⟩
theorem ins_perm (id : Nat) (x : Int) (l : List (Nat × Int)) : (insF id x l).Perm ((id, x) :: l) := by
  induction l with
  | nil => exact List.Perm.refl _
  | cons e r ih =>
    unfold insF
    split
    · exact List.Perm.refl _
    · exact (List.Perm.cons e ih).trans (List.Perm.swap _ _ _)
theorem ins_up (id : Nat) (x : Int) (l : List (Nat × Int)) (h : (l.map (·.1)).Pairwise (· < ·)) (hn : id ∉ l.map (·.1)) : ((insF id x l).map (·.1)).Pairwise (· < ·) := by
  induction l with
  | nil => simp [insF]
  | cons e r ih =>
    rw [List.map_cons, List.pairwise_cons] at h
    rw [List.map_cons, List.mem_cons, not_or] at hn
    unfold insF
    split
    · rename_i hlt
      rw [List.map_cons, List.map_cons, List.pairwise_cons, List.pairwise_cons]
      refine ⟨fun a ha => ?_, h⟩
      rcases List.mem_cons.1 ha with rfl | ha
      · exact hlt
      · exact Nat.lt_trans hlt (h.1 a ha)
    · rename_i hlt
      rw [List.map_cons, List.pairwise_cons]
      refine ⟨fun a ha => ?_, ih h.2 hn.2⟩
      have hp : a ∈ ((id, x) :: r).map (·.1) := ((ins_perm id x r).map (·.1)).mem_iff.1 ha
      rcases List.mem_cons.1 hp with e1 | hp
      · have e2 : a = id := e1
        have h9 : ¬ id = e.1 := hn.1
        omega
      · exact h.1 a hp
theorem Rel.ins {l E : List (Nat × Int)} (h : Rel l E) {id : Nat} (hn : id ∉ l.map (·.1)) (x : Int) : Rel (insF id x l) ((id, x) :: E) :=
  ⟨(ins_perm id x l).trans (List.Perm.cons _ h.perm), ins_up id x l h.up hn⟩
theorem Rel.set {l E : List (Nat × Int)} (h : Rel l E) (id : Nat) (x : Int) : Rel (setF id x l) (setF id x E) := by
  refine ⟨h.perm.map _, ?_⟩
  have e : (setF id x l).map (·.1) = l.map (·.1) := by
    unfold setF
    rw [List.map_map]
    refine List.map_congr_left (fun e _ => ?_)
    show (if e.1 = id then (id, x) else e).1 = e.1
    split
    · rename_i h; exact h.symm
    · rfl
  rw [e]; exact h.up
theorem Rel.del {l E : List (Nat × Int)} (h : Rel l E) (id : Nat) : Rel (delF id l) (delF id E) :=
  ⟨h.perm.filter _, h.up.sublist ((List.filter_sublist (l := l)).map _)⟩
theorem rise_eq {xs ys : List Nat} (h : xs.Perm ys) (h1 : xs.Pairwise (· ≤ ·)) (h2 : ys.Pairwise (· < ·)) : xs = ys := by
  induction ys generalizing xs with
  | nil => exact h.eq_nil
  | cons b r ih =>
    cases xs with
    | nil => exact absurd h.length_eq (by simp)
    | cons a s =>
      have hab : a = b := by
        have h3 : a ∈ b :: r := h.mem_iff.1 (by simp)
        have h4 : b ∈ a :: s := h.mem_iff.2 (by simp)
        rcases List.mem_cons.1 h3 with e | h3
        · exact e
        · rcases List.mem_cons.1 h4 with e | h4
          · exact e.symm
          · have := (List.pairwise_cons.1 h1).1 b h4
            have := (List.pairwise_cons.1 h2).1 a h3
            omega
      subst hab
      rw [ih ((List.perm_cons a).1 h) (List.pairwise_cons.1 h1).2 (List.pairwise_cons.1 h2).2]
theorem Rel.ids {l E : List (Nat × Int)} (h : Rel l E) {ys : List Nat} (hr : sortUint32.Rising (E.map (·.1)) ys) : ys = l.map (·.1) :=
  rise_eq (hr.perm.trans (h.perm.map _).symm) hr.up h.up
end Go.Proofs.Ythnlggecjdifnaa
