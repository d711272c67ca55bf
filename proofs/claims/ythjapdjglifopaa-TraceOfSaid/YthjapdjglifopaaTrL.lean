/- Walks of layer 39: what left; the example. -/
import Derived.Test.YthjapdjglifopaaTrY
import Derived.Test.YthjapdjglifopaaSat
import Derived.Test.YthjapdjglifopaaTake
import Derived.Deep.QuietTactic
import Derived.BigQuiet
namespace Go.Proofs.Ythjapdjglifopaa
set_option linter.unusedVariables false
set_option linter.unusedSimpArgs false
open Go.RowKit Go.Shelf

def leavesB (r : Rec) : Bool := decide (r.kind = 2) && decide (r.code = 0)
def leftS (p : Nat × Nat) (r : Rec) : Nat × Nat := if leavesB r = true then (p.1 + 1, satN p.2 r.len) else p
def leftF (l : List Rec) : Nat × Nat := l.foldl leftS (0, 0)
theorem leftF_snoc (l : List Rec) (r : Rec) : leftF (l ++ [r]) = leftS (leftF l) r := by simp [leftF]
theorem leftF_le (l : List Rec) : (leftF l).1 ≤ l.length ∧ (leftF l).2 < 18446744073709551616 := by
  refine snocT (P := fun l => (leftF l).1 ≤ l.length ∧ (leftF l).2 < 18446744073709551616) (by simp [leftF]) (fun l r ih => ?_) l
  rw [leftF_snoc, List.length_append]
  unfold leftS
  split
  · exact ⟨by simp; omega, satN_lt _ _⟩
  · exact ⟨by omega, ih.2⟩
theorem ret_left {p : Nat × Nat} {a b : Nat} (h : p = (a, b)) : Ending.returned (.tuple #[.int .u64 a, .int .u64 b]) = .returned (.tuple #[.int .u64 p.1, .int .u64 p.2]) := by rw [h]

set_option maxHeartbeats 2000000 in
theorem tLeft (l : List Rec) (hok : ∀ r ∈ l, r.goes) (hn : l.length ≤ 1000) (v : Value) (w : World) (h : Sl w v l.length 6 (l.flatMap enR)) :
    Calls Try.prog 27 #[v] w fun e w' => e = .returned (.tuple #[.int .u64 (leftF l).1, .int .u64 (leftF l).2]) ∧ Kp none' w w' := by
  obtain ⟨ao, cap, rfl⟩ : ∃ ao cap, v = .slice ao l.length cap := by obtain ⟨ao, cap, rfl, _⟩ := h.is; exact ⟨_, _, rfl⟩
  have HS := Lib.hid h
  clear h
  go_enter Try.func27, Try.ntmps27
  go_wp2
  go_loopw [4, 5, 10] (fun x0 y0 i0 wr => ∃ (j x y : Nat), i0 = .int .i64 j ∧ j ≤ l.length ∧ x0 = .int .u64 x ∧ y0 = .int .u64 y ∧ x ≤ j ∧ y < 18446744073709551616 ∧ Hid (leftF (l.take j) = (x, y) ∧ Kp none' w wr)) (fun _ _ i0 _ => l.length - (intOf i0).toNat)
  case atStart => exact ⟨0, 0, 0, rfl, by omega, rfl, rfl, by omega, by omega, rfl, Kp.refl _ _⟩
  case round =>
    obtain ⟨j, x, y, rfl, hj, rfl, rfl, hx, hy, hr⟩ := hrel
    by_cases hlt : j < l.length
    · obtain ⟨g, off, cap', e1, hc⟩ := (HS.out.old hr.out.2).at enR_len (by decide) j hlt
      injection e1 with e1 _ e3
      subst e1 e3
      have hgo := hok l[j] (List.getElem_mem hlt)
      obtain ⟨r, hrj⟩ : ∃ r, l[j] = r := ⟨_, rfl⟩
      rw [hrj] at hc hgo
      have HT : Hid (leftF (l.take (j + 1)) = leftS (x, y) r) := by
        show _ = _
        rw [List.take_succ_eq_append_getElem hlt, leftF_snoc, hr.out.1, hrj]
      obtain ⟨t, k, f, i, n, c⟩ := r
      have hnl := hgo.1.len
      simp only at hnl
      have c0 := hc 0 _ rfl
      have c1 := hc 1 _ rfl
      have c2 := hc 2 _ rfl
      have c3 := hc 3 _ rfl
      have c4 := hc 4 _ rfl
      have c5 := hc 5 _ rfl
      simp only [Nat.add_zero] at c0 c1 c2 c3 c4 c5
      have HK := Lib.hid (hr.out.2.alloc (.cells #[.int .u64 t, .int .i64 k, .int .u32 f, .int .u32 i, .int .u64 n, .int .i64 c] 53))
      have HA := Lib.hid (fun W => sAdd y n hy hnl W)
      clear hc hgo hrj
      by_cases hk : k = 2
      · subst hk
        by_cases hcd : c = 0
        · subst hcd
          have HL : Hid (leftF (l.take (j + 1)) = (x + 1, satN y n)) := by show _ = _; rw [HT.out]; rfl
          have hs := satN_lt y n
          obtain ⟨q, hq⟩ : ∃ q, satN y n = q := ⟨_, rfl⟩
          rw [hq] at HA HL hs
          clear hq
          go_wp2_with fail
          refine (HA.out _).mono ?_
          rintro e w2 ⟨rfl, rfl⟩
          go_wp2_with fail
          go_roundw
          case rel => exact ⟨j + 1, x + 1, q, by go_num, by omega, by simp, rfl, by omega, hs, HL.out, HK.out⟩
          case measure => simp [intOf]; omega
        · have hcb : (c == 0) = false := by simpa using hcd
          have HL : Hid (leftF (l.take (j + 1)) = (x, y)) := by show _ = _; rw [HT.out]; unfold leftS leavesB; rw [if_neg]; simp [hcd]
          go_wp2_with fail
          go_roundw
          case rel => exact ⟨j + 1, x, y, by go_num, by omega, rfl, rfl, by omega, hy, HL.out, HK.out⟩
          case measure => simp [intOf]; omega
      · have hkb : (k == 2) = false := by simpa using hk
        have HL : Hid (leftF (l.take (j + 1)) = (x, y)) := by show _ = _; rw [HT.out]; unfold leftS leavesB; rw [if_neg]; simp [hk]
        go_wp2_with fail
        go_roundw
        case rel => exact ⟨j + 1, x, y, by go_num, by omega, rfl, rfl, by omega, hy, HL.out, HK.out⟩
        case measure => simp [intOf]; omega
    · have HL : Hid (leftF l = (x, y)) := by
        have := hr.out.1
        rwa [List.take_of_length_le (by omega)] at this
      go_wp2_with fail
      go_ret2
      exact ⟨ret_left HL.out, hr.out.2⟩

def exR : Rec := ⟨7, 2, 1, 2, 3, 0⟩
theorem ex_goes : ∀ r ∈ [exR, exR], r.goes := by
  intro r hr
  simp at hr; subst hr
  exact ⟨⟨by decide, by decide, by decide, by decide⟩, by decide, by decide⟩
theorem ex_fit : Fit [exR, exR] := by
  intro r hr
  simp at hr; subst hr
  exact ⟨⟨by decide, by decide, by decide, by decide⟩, by decide⟩
theorem ex_put : putE [exR, exR] = (flatR [exR, exR], 0) := putE_yes (fun r hr => (ex_fit r hr).2)
set_option maxHeartbeats 4000000 in
theorem lives (w : World) : Calls Try.prog 18 #[] w fun e w' => e = .returned (.bool true) ∧ Kp none' w w' := by
  have HP := fun v W => tPut [exR, exR] ex_goes (by decide) v W
  rw [ex_put] at HP
  have hl : (tx (flatR [exR, exR])).size = 60 := by rw [tx_size, flatR_len]; rfl
  have hx : bl ((tx (flatR [exR, exR])).extract 0 59) = (flatR [exR, exR]).take 59 := by rw [bl_cut, bl_tx]; simp
  have HR := tRead ((tx (flatR [exR, exR])).extract 0 59) (by rw [← bl_len, hx, List.length_take]; omega)
  have HU : Hid (∀ l, Reads (bl ((tx (flatR [exR, exR])).extract 0 59)) l → l = [exR]) := fun l hR => by
    rw [hx] at hR
    exact hR.uniq (reads_cut [exR, exR] ex_fit 59 (by decide))
  have HF := fun v W => tLeft [exR, exR] ex_goes (by decide) v W
  rw [show leftF [exR, exR] = (2, 6) by decide] at HF
  generalize tx (flatR [exR, exR]) = s at *
  have GP := Lib.hid HP; have GR := Lib.hid HR; have GF := Lib.hid HF
  have hls : (s.size : Int) = 60 := by omega
  clear HP HR HF hx
  go_enter Try.func18, Try.ntmps18
  go_wp2_with fail
  refine (GP.out _ _ (sl_blk (b := w.heap.size + 1) (by have := Blk.new (w.alloc (.cells (enR exR).toArray 53)) ([exR, exR].flatMap enR) 53; rw [World.size_alloc] at this; exact this) 2 6 2 rfl (by omega))).mono ?_
  rintro e w1 ⟨rfl, k1⟩
  have hB1 := ((Blk.new w (enR exR) 53).alloc (.cells ([exR, exR].flatMap enR).toArray 53)).kp k1 id
  have K1 := Lib.hid (((Kp.refl none' w).alloc (.cells (enR exR).toArray 53)).alloc (.cells ([exR, exR].flatMap enR).toArray 53) |>.trans k1)
  clear k1
  have B1 := Lib.hid hB1
  clear hB1
  go_wp2_with fail
  refine (GR.out _).mono ?_
  rintro e w2 ⟨v, l, rfl, hRd, hOw, k2⟩
  obtain rfl := HU.out l hRd
  obtain ⟨g, cap, rfl, hg⟩ := own_shape1 hOw (by decide)
  have B2 := Lib.hid (B1.out.kp k2 id); have K2 := Lib.hid (K1.out.trans k2); have O2 := Lib.hid hOw
  have c0 : w2.cell? ⟨w.heap.size, 0, none⟩ = some (.int .u64 7) := B2.out.cell 0 rfl
  have c1 : w2.cell? ⟨w.heap.size, 1, none⟩ = some (.int .i64 2) := B2.out.cell 1 rfl
  have c2 : w2.cell? ⟨w.heap.size, 2, none⟩ = some (.int .u32 1) := B2.out.cell 2 rfl
  have c3 : w2.cell? ⟨w.heap.size, 3, none⟩ = some (.int .u32 2) := B2.out.cell 3 rfl
  have c4 : w2.cell? ⟨w.heap.size, 4, none⟩ = some (.int .u64 3) := B2.out.cell 4 rfl
  have c5 : w2.cell? ⟨w.heap.size, 5, none⟩ = some (.int .i64 0) := B2.out.cell 5 rfl
  clear k2 hOw hRd HU hg
  go_wp2_with fail
  refine (GF.out _ _ (sl_blk (Blk.new w2 ([exR, exR].flatMap enR) 53) 2 6 2 rfl (by omega))).mono ?_
  rintro e w3 ⟨rfl, k3⟩
  have k4 := ((Kp.refl none' w2).alloc (.cells ([exR, exR].flatMap enR).toArray 53)).trans k3
  have K3 := Lib.hid (K2.out.trans k4)
  have hB3 := B2.out.kp k4 id
  have hO3 := own_kp (S := none') O2.out k4 (fun _ _ h => h)
  have d0 : w3.cell? ⟨w.heap.size, 0, none⟩ = some (.int .u64 7) := hB3.cell 0 rfl
  have d1 : w3.cell? ⟨w.heap.size, 1, none⟩ = some (.int .i64 2) := hB3.cell 1 rfl
  have d2 : w3.cell? ⟨w.heap.size, 2, none⟩ = some (.int .u32 1) := hB3.cell 2 rfl
  have d3 : w3.cell? ⟨w.heap.size, 3, none⟩ = some (.int .u32 2) := hB3.cell 3 rfl
  have d4 : w3.cell? ⟨w.heap.size, 4, none⟩ = some (.int .u64 3) := hB3.cell 4 rfl
  have d5 : w3.cell? ⟨w.heap.size, 5, none⟩ = some (.int .i64 0) := hB3.cell 5 rfl
  have g0 : w3.cell? ⟨g, 0, none⟩ = some (.int .u64 7) := own_cell hO3 0 rfl
  have g1 : w3.cell? ⟨g, 1, none⟩ = some (.int .i64 2) := own_cell hO3 1 rfl
  have g2 : w3.cell? ⟨g, 2, none⟩ = some (.int .u32 1) := own_cell hO3 2 rfl
  have g3 : w3.cell? ⟨g, 3, none⟩ = some (.int .u32 2) := own_cell hO3 3 rfl
  have g4 : w3.cell? ⟨g, 4, none⟩ = some (.int .u64 3) := own_cell hO3 4 rfl
  have g5 : w3.cell? ⟨g, 5, none⟩ = some (.int .i64 0) := own_cell hO3 5 rfl
  clear k3 k4 hB3 hO3 c0 c1 c2 c3 c4 c5
  go_wp2_with fail
  go_quiet (fail)
  go_wp2
  go_ret
  exact ⟨rfl, K3.out.drewN _⟩
end Go.Proofs.Ythjapdjglifopaa
