/- 'make' of things that lie flat. Names no function of the program. -/
import Derived.Test.YthjapdjglifopaaOwn
import Derived.Laws.MakeOwn
namespace Go.Proofs.Ythjapdjglifopaa
set_option linter.unusedVariables false
set_option linter.unusedSimpArgs false
open Go.RowKit

theorem made_flat {α : Type} (en : α → List Value) (sz : Nat) (hl : ∀ a, (en a).length = sz) (hp : 0 < sz) (a : α) (n : Nat) : madeCells (en a).toArray (n * sz) = ((List.replicate n a).flatMap en).toArray := by
  apply Array.ext
  · rw [size_madeCells, List.size_toArray, flat_len en sz hl, List.length_replicate]
  · intro i h1 h2
    rw [size_madeCells] at h1
    have hr : i % sz < sz := Nat.mod_lt _ hp
    have hd : i / sz < n := (Nat.div_lt_iff_lt_mul hp).2 h1
    have hdm : i / sz * sz + i % sz = i := by rw [Nat.mul_comm]; exact Nat.div_add_mod i sz
    have h3 := flat_get en sz hl (List.replicate n a) (i / sz) (i % sz) hr
    rw [hdm, List.getElem?_replicate, if_pos hd] at h3
    have hi : i % sz < (en a).length := by rw [hl]; exact hr
    simp only [madeCells, Array.getElem_map, Array.getElem_range, List.size_toArray, hl]
    have h4 : ((List.replicate n a).flatMap en)[i]? = some ((en a)[i % sz]'hi) := by rw [h3]; simp [hi]
    have h5 : ((List.replicate n a).flatMap en).toArray[i] = (en a)[i % sz]'hi := by
      have := (List.getElem?_eq_some_iff.1 h4).2
      simpa using this
    rw [h5]
    simp [hi]
theorem run_make_flat {P : Program} {t e : TypeId} {z : Value} {sz bytes : Nat} (T : SlT P t e z sz bytes) {α : Type} (en : α → List Value) (hl : ∀ a, (en a).length = sz) (a : α) (ha : z.cells = (en a).toArray) (n : Nat) (hb : bytes * n ≤ 281474976710656) (hn : n ≤ 9223372036854775807) (w : World) :
    (Instr.makeSlice t (.int .i64 (n : Int)) (.int .i64 (n : Int))).run P w = .ok (.slice (some ⟨w.heap.size, 0, none⟩) n n) (w.alloc (.cells ((List.replicate n a).flatMap en).toArray e)) := by
  obtain ⟨i, hi, hzz⟩ := Option.map_eq_some_iff.1 T.info
  simp only [Prod.mk.injEq] at hzz
  obtain ⟨hz, hs, hbb⟩ := hzz
  have hb' : (bytes : Int) * (n : Int) ≤ 281474976710656 := by
    have h : ((bytes * n : Nat) : Int) ≤ 281474976710656 := by omega
    rwa [Int.natCast_mul] at h
  have hr := run_make (P := P) w t e i z T.ht hi hz .i64 .i64 n n (by omega) (Int.le_refl _) (by rw [hbb]; exact hb') (by omega)
  rw [hs, ha] at hr
  simp only [Int.toNat_natCast] at hr
  rw [hr, made_flat en sz hl T.pos a n]
theorem own_made {α : Type} (en : α → List Value) (sz : Nat) (hl : ∀ a, (en a).length = sz) (a : α) (n : Nat) (hn : n ≤ 1000000) (e : TypeId) (w : World) (B : Nat) (hB : B ≤ w.heap.size) :
    (w.alloc (.cells ((List.replicate n a).flatMap en).toArray e)).ownsRow B e sz (.slice (some ⟨w.heap.size, 0, none⟩) n n) n ((List.replicate n a).flatMap en) := by
  have h1 : ((List.replicate n a).flatMap en).length = n * sz := by rw [flat_len en sz hl, List.length_replicate]
  refine ⟨h1, .inr ⟨w.heap.size, n, _, rfl, hB, heap_new _ _, Nat.le_refl _, by unfold maxLen; omega, by rw [List.size_toArray, h1], ?_⟩⟩
  show ((List.replicate n a).flatMap en).take (n * sz) = _
  exact List.take_of_length_le (by omega)
end Go.Proofs.Ythjapdjglifopaa
