/- What the functions of package flow compute, at things of kind string: New, Len; a table that nobody made. -/
import Derived.Test.YthnlggecjdifnaaFlowDString
namespace Go.Proofs.Ythnlggecjdifnaa.flowString
set_option linter.unusedVariables false
set_option linter.unusedSimpArgs false
open Go.RowKit Go.Proofs.Ythnlggecjdifnaa

theorem TOk.new (room : Nat) (h1 : 1 ≤ room) (h2 : room ≤ 4096) : TOk (List.replicate 8 none) 0 room :=
  ⟨⟨3, by decide, rfl⟩, FInv.nil 8 (fun id => homeN_lt 8 id (by decide)), by rw [ents_nil]; rfl, by decide, Nat.zero_le _, h1, h2, fun e h => (by rw [ents_nil] at h; cases h), by decide, by decide⟩
set_option maxRecDepth 100000 in
set_option maxHeartbeats 4000000 in
theorem fNew (room : Nat) (h1 : 1 ≤ room) (h2 : room ≤ 4096) (w : World) : Calls Try.prog 10 #[.int .i64 room] w fun e w' => ∃ tb sb, e = .returned (.tuple #[.pointer (some ⟨tb, 0, none⟩), .int .i64 0]) ∧ TMem w' tb sb (List.replicate 8 none) 0 room ∧ w.heap.size ≤ tb ∧ w.heap.size ≤ sb ∧ Kp none' w w' := by
  have hmk := run_make_flat tSl enS enS_len none rfl 8 (by omega) (by omega) w
  have d1 : ¬ (room : Int) < 1 := by omega
  have d2 : ¬ (4096 : Int) < room := by omega
  have hmk2 : (Instr.makeSlice 65 (.int .i64 8) (.int .i64 8)).run Try.prog w = .ok (.slice (some ⟨w.heap.size, 0, none⟩) 8 8) (w.alloc (.cells ((List.replicate 8 (none : Option (Nat × Th))).flatMap enS).toArray 69)) := hmk
  obtain ⟨L0, hL0⟩ : ∃ L0, (List.replicate 8 (none : Option (Nat × Th))).flatMap enS = L0 := ⟨_, rfl⟩
  have HM : Hid (TMem ((w.alloc (.cells L0.toArray 69)).alloc (.cells #[.slice (some ⟨w.heap.size, 0, none⟩) 8 8, .int .i64 0, .int .i64 room] 67)) (w.heap.size + 1) w.heap.size (List.replicate 8 none) 0 room) := by
    have h1 := Blk.new (w.alloc (.cells L0.toArray 69)) [.slice (some ⟨w.heap.size, 0, none⟩) 8 8, .int .i64 0, .int .i64 room] 67
    rw [World.size_alloc] at h1
    exact ⟨h1, by rw [hL0]; exact (Blk.new w L0 _).alloc _⟩
  have HK : Hid (Kp none' w ((w.alloc (.cells L0.toArray 69)).alloc (.cells #[.slice (some ⟨w.heap.size, 0, none⟩) 8 8, .int .i64 0, .int .i64 room] 67))) := ((Kp.refl _ _).alloc _).alloc _
  rw [hL0] at hmk2
  clear hmk hL0
  go_enter Try.func10, Try.ntmps10
  go_wp2
  go_ret2
  exact ⟨w.heap.size + 1, rfl, w.heap.size, HM.out, by omega, by omega, HK.out⟩
end Go.Proofs.Ythnlggecjdifnaa.flowString
