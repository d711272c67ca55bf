/- Walks of layer 41: what a line's words say; the program's. -/
import Derived.Test.YthgpmpmnihijnaaDoorScN
import Derived.Test.YthgpmpmnihijnaaDoorRowSet
import Derived.Deep.RegionHeld3
namespace Go.Proofs.YthgpmpmnihijnaaDoor
set_option linter.unusedVariables false
set_option linter.unusedSimpArgs false
open Go.RowKit Go.Shelf

theorem infoO : (Tryd.prog.info? 40).map (·.size) = some 5 := by kernel_rfl
theorem oneO (o : OpR) : ∀ v ∈ enO o, v.oneCell' = true := by
  intro v hv; simp only [enO, List.mem_cons, List.not_mem_nil, or_false] at hv; rcases hv with rfl | rfl | rfl | rfl | rfl <;> rfl
theorem es_cons {small i : Nat} {x : List UInt8} {r : List (List UInt8)} (h : es small i (x :: r) = 0) : e1 small i x = 0 ∧ es small (i + 1) r = 0 := by
  rw [es] at h
  by_cases h0 : e1 small i x = 0
  · rw [if_neg (by simp [h0])] at h; exact ⟨h0, h⟩
  · rw [if_pos h0] at h; exact absurd h h0
theorem e1_lt {small j : Nat} {x : List UInt8} (h : e1 small j x = 0) (hj : j < small) : (rdU x).1 < 4294967296 := by
  unfold e1 at h
  split at h
  · rename_i h0; exact absurd h h0
  · split at h
    · cases h
    · rename_i h0; omega
theorem rdU_lt (x : List UInt8) : (rdU x).1 < 18446744073709551616 := by
  unfold rdU
  split
  · exact (by decide : 0 < 18446744073709551616)
  · split
    · rename_i h; unfold M64 at h; exact h
    · exact (by decide : 0 < 18446744073709551616)
theorem hd_map (x : ByteArray) (r : List ByteArray) : ((x :: r).map bl).headD [] = bl x := rfl
theorem tl_map (x : ByteArray) (r : List ByteArray) : ((x :: r).map bl).tail = r.map bl := rfl
theorem wrap32 (n : Nat) (h : n < 4294967296) : IntKind.u32.wrap (n : Int) = n := by rw [IntKind.wrap_u32]; omega
theorem tl_sl {w : World} {g off cap : Nat} {x : ByteArray} {r : List ByteArray} (h : Sl w (.slice (some ⟨g, off, none⟩) (r.length + 1) cap) (r.length + 1) 1 (strs (x :: r))) (c : Nat) : Sl w (.slice (some ⟨g, off + 1, none⟩) r.length c) r.length 1 (strs r) := by
  refine ⟨by simp [strs], by have := h.max; omega, _, c, rfl, fun i u hu => ⟨g, off + 1, rfl, ?_⟩⟩
  obtain ⟨ao, cap', e, hc⟩ := h.is
  injection e with e1 _ _
  obtain ⟨b, o, e2, hcell⟩ := hc (i + 1) u (by simpa [strs] using hu)
  subst e2
  injection e1 with e1
  injection e1 with e1 e2 _
  subst e1 e2
  rw [show off + 1 + i = off + (i + 1) by omega]
  exact hcell

set_option maxRecDepth 100000 in
set_option maxHeartbeats 2000000 in
theorem sOneNo (x : ByteArray) (r : List ByteArray) (g off cap : Nat) (w : World) (h : Sl w (.slice (some ⟨g, off, none⟩) (r.length + 1) cap) (r.length + 1) 1 (strs (x :: r))) (k : Int) (m : Nat) (hk : kd (bl x) = (k, m)) (hno : k < 0 ∨ r.length ≠ m) (hrl : r.length < 1000000) (hm : m ≤ 3) :
    Calls Tryd.prog 14 #[.slice (some ⟨g, off, none⟩) (r.length + 1 : Nat) cap] w fun e w' => e = .returned (.tuple #[.agg (enO z5).toArray, .int .i64 31]) ∧ Kp none' w w' := by
  obtain ⟨w0, hw0⟩ : ∃ w0, w.alloc (.cells (enO z5).toArray 40) = w0 := ⟨_, rfl⟩
  have hWX : w.alloc (.cells #[.int .i64 0, .int .u32 0, .int .u32 0, .int .u64 0, .int .u64 0] 40) = w0 := hw0
  have HB : Hid (Blk w0 w.heap.size (enO z5) 40) := by rw [← hw0]; exact Blk.new w _ _
  have HK0 : Hid (Kp none' w w0) := by show Kp none' w w0; rw [← hw0]; exact (Kp.refl _ _).alloc _
  have HW := Lib.hid hWX
  obtain ⟨ao, cap', e, hc⟩ := h.is
  injection e with e1 _ _
  subst e1
  obtain ⟨b, o, e2, hcell⟩ := hc 0 _ rfl
  injection e2 with e2
  injection e2 with e1 e2 _
  subst e1 e2
  rw [Nat.add_zero] at hcell
  have hcell1 : (w.alloc (.cells #[.int .i64 0, .int .u32 0, .int .u32 0, .int .u64 0, .int .u64 0] 40)).cell? ⟨g, off, none⟩ = some (.string x) := by rw [hWX]; exact HK0.out.cell hcell id
  have hKD := fun W => sKind x W
  rw [hk] at hKD
  have HONE := oneO z5
  simp only at hKD
  have HKD := Lib.hid hKD
  clear h hc hw0 hWX hKD
  by_cases hk0 : k < 0
  · clear hno
    go_enter Tryd.func14, Tryd.ntmps14
    go_wp2_with fail
    rw [HW.out]
    refine (HKD.out w0).mono ?_
    rintro e w1 ⟨rfl, rfl⟩
    go_wp2_with (first
      | (refine wp_set_row rfl 40 (.tmp 2) (.tmp 26) rfl HB.out (enO z5) rfl rfl infoO rfl HONE ?_
         intro W2 hB2 hO2 hK2
         have HB2 := Lib.hid hB2
         have HK2 := Lib.hid (hK2 _ _ HK0.out (.inr (Nat.le_refl _)))
         clear hB2 hO2 hK2))
    exact ret_row2 rfl HB2.out _ Tryd.underlying40 rfl infoO rfl ⟨rfl, HK2.out⟩
  · have hne : ((r.length : Int) + 1 != (m : Int) + 1) = true := by
      rw [bne_iff_ne]; rcases hno with h | h
      · exact absurd h hk0
      · omega
    clear hno
    go_enter Tryd.func14, Tryd.ntmps14
    go_wp2_with fail
    rw [HW.out]
    refine (HKD.out w0).mono ?_
    rintro e w1 ⟨rfl, rfl⟩
    go_wp2_with (first
      | (refine wp_set_row rfl 40 (.tmp 2) (.tmp 26) rfl HB.out (enO z5) rfl rfl infoO rfl HONE ?_
         intro W2 hB2 hO2 hK2
         have HB2 := Lib.hid hB2
         have HK2 := Lib.hid (hK2 _ _ HK0.out (.inr (Nat.le_refl _)))
         clear hB2 hO2 hK2))
    exact ret_row2 rfl HB2.out _ Tryd.underlying40 rfl infoO rfl ⟨rfl, HK2.out⟩
end Go.Proofs.YthgpmpmnihijnaaDoor
