/- The library's sort at uint32: the world in which a row holds d and all else is as it was (new memory may lie behind). -/
import Derived.Test.YthnlggecjdifnaaSoAUint32
namespace Go.Proofs.Ythnlggecjdifnaa.sortUint32
set_option linter.unusedVariables false
set_option linter.unusedSimpArgs false
open Go.RowKit Go.Sort Go.Proofs.Ythnlggecjdifnaa
theorem heap_putRow (w : World) (blk off : Nat) (d : Array Nat) : (putRow en w blk off d).heap[blk]? = (w.heap[blk]?).map (onCells (putCells en off d)) := by
  simp [putRow, mapBlock, Array.getElem?_modify]
theorem holds_block {w w' : World} {blk off : Nat} {d : Array Nat} (h : Holds en w blk off d) (e : w'.heap[blk]? = w.heap[blk]?) : Holds en w' blk off d := by
  intro j hj
  obtain ⟨h1, h2⟩ := h j hj
  exact ⟨by simp only [World.cell?] at h1 ⊢; rw [e]; exact h1, by simp only [World.frozen?] at h2 ⊢; rw [e]; exact h2⟩
structure Rw (w : World) (blk off : Nat) (d : Array Nat) (W : World) : Prop where
  lt : blk < w.heap.size
  row : W.heap[blk]? = (putRow en w blk off d).heap[blk]?
  kp : Kp (fun b => b = blk) w W
theorem Rw.refl {w : World} {blk off : Nat} {d : Array Nat} (h : Holds en w blk off d) (hb : blk < w.heap.size) : Rw w blk off d w :=
  ⟨hb, by rw [putRow_self _ _ _ _ _ h], Kp.refl _ _⟩
theorem Rw.old {w W W' : World} {blk off : Nat} {d : Array Nat} (h : Rw w blk off d W) (k : Kp none' W W') : Rw w blk off d W' :=
  ⟨h.lt, (k.block blk (Nat.lt_of_lt_of_le h.lt h.kp.size) id).trans h.row, h.kp.then k (fun _ _ x => x.elim)⟩
theorem Rw.holds {w W : World} {blk off : Nat} {d d0 : Array Nat} (h : Rw w blk off d W) (h0 : Holds en w blk off d0) (hs : d.size = d0.size) : Holds en W blk off d :=
  holds_block (holds_putRow en w blk off d0 d h0 hs) h.row
theorem Rw.blk {w W : World} {blk off : Nat} {d : Array Nat} (h : Rw w blk off d W) : blk < W.heap.size := Nat.lt_of_lt_of_le h.lt h.kp.size
theorem kp_putRow (w : World) (blk off n : Nat) (d : Array Nat) : Kp (fun b => b = blk) w (putRow en (Sort.ahead w n) blk off d) := by
  refine ⟨rfl, rfl, rfl, by simp [putRow, mapBlock, Sort.ahead], fun k hk hne => ?_⟩
  have : blk ≠ k := fun e => hne e.symm
  simp [putRow, mapBlock, Sort.ahead, Array.getElem?_modify, this]
theorem Rw.put {w W W' : World} {blk off : Nat} {d d' : Array Nat} (h : Rw w blk off d W) (hs : d'.size = d.size) (e : ∃ n, W' = putRow en (Sort.ahead W n) blk off d') : Rw w blk off d' W' := by
  obtain ⟨n, rfl⟩ := e
  refine ⟨h.lt, ?_, h.kp.then (kp_putRow W blk off n d') (fun i _ x => x)⟩
  have e1 : (putRow en (Sort.ahead W n) blk off d').heap[blk]? = (W.heap[blk]?).map (onCells (putCells en off d')) := heap_putRow _ _ _ _
  have e2 : (putRow en (putRow en w blk off d) blk off d').heap[blk]? = ((putRow en w blk off d).heap[blk]?).map (onCells (putCells en off d')) := heap_putRow _ _ _ _
  rw [e1, h.row, ← e2]
  have := putRow_ahead_putRow en w 0 0 blk off d d' hs
  rw [ahead_zero, ahead_zero] at this
  rw [this]
theorem Rw.of_at {w W : World} {blk off : Nat} {d : Array Nat} (hb : blk < w.heap.size) (h : At en w blk off d W) : Rw w blk off d W := by
  obtain ⟨n, os, rfl⟩ := h
  have hb2 : blk < (putRow en (Sort.ahead w n) blk off d).heap.size := by simpa [putRow, mapBlock, Sort.ahead] using hb
  refine ⟨hb, ?_, ?_⟩
  · rw [heap_grow_old _ _ hb2, heap_putRow, heap_putRow]; rfl
  · refine ⟨rfl, rfl, rfl, by simp [grow, putRow, mapBlock, Sort.ahead], fun k hk hne => ?_⟩
    rw [heap_grow_old _ _ (by simpa [putRow, mapBlock, Sort.ahead] using hk)]
    exact (kp_putRow w blk off n d).block k hk hne
theorem Rw.trans {w W W' : World} {blk off : Nat} {d d' : Array Nat} (h : Rw w blk off d W) (hs : d'.size = d.size) (k : Rw W blk off d' W') : Rw w blk off d' W' := by
  refine ⟨h.lt, ?_, h.kp.then k.kp (fun i _ x => x)⟩
  have := (h.put hs ⟨0, rfl⟩).row
  rw [ahead_zero] at this
  rw [k.row, this]
end Go.Proofs.Ythnlggecjdifnaa.sortUint32
