/- Walk for layer 24: (*reader).flow. -/
import Derived.Test.YtlaakhfgidjofaaGreatDoorMSnapNobodyF9
import Derived.Test.YtlaakhfgidjofaaGreatDoorMSnapNobodyF1
import Derived.Test.YtlaakhfgidjofaaGreatDoorMSnapNobodyF5
import Derived.Deep.RegionHeld3
namespace Go.Proofs.YtlaakhfgidjofaaGreatDoor
set_option linter.unusedVariables false
set_option linter.unusedSimpArgs false
open Go Go.RowKit Go.Shelf
structure RdC (w : World) (B rb mb : Nat) (v : Value) (c : CfR) : Prop where
  blk : Blk w rb (enC c v ++ [.map (some mb)]) 159
  own : w.ownsRow B 85 5 v c.flows.length (c.flows.flatMap enFl)
  ok : c.ok
  few : c.flows.length ≤ 100000
  lo : B ≤ rb
theorem RdC.kp {S : Nat → Prop} {w w' : World} {B rb mb : Nat} {v : Value} {c : CfR} (h : RdC w B rb mb v c) (k : Kp S w w') (h1 : ¬ S rb) (h2 : ∀ b, v.ownBlock = some b → ¬ S b) : RdC w' B rb mb v c :=
  ⟨h.blk.kp k h1, own_kp h.own k h2, h.ok, h.few, h.lo⟩
theorem RdC.old {w w' : World} {B rb mb : Nat} {v : Value} {c : CfR} (h : RdC w B rb mb v c) (k : Kp none' w w') : RdC w' B rb mb v c := h.kp k (fun x => x) (fun _ _ x => x)
theorem RdC.ne {w : World} {B rb mb : Nat} {v : Value} {c : CfR} (h : RdC w B rb mb v c) : v.ownBlock ≠ some rb := own_ne_blk h.own h.blk (by decide)
theorem cell_lt {w : World} {a : Addr} {v : Value} (h : w.cell? a = some v) : a.block < w.heap.size := by
  by_cases hb : a.block < w.heap.size
  · exact hb
  · simp [World.cell?, Array.getElem?_eq_none (Nat.le_of_not_lt hb)] at h
theorem cNum (s : ByteArray) (hs : s.size ≤ 1000000) (most : Nat) : ∃ (n : Nat) (E : Int), numE most (bl s) = (n, E) ∧ n ≤ most ∧
    (∀ W, E = 0 → Calls Tryz.prog 147 #[.string s, .int .u64 most] W fun e w' => e = .returned (.int .u64 n) ∧ Kp none' W w') ∧
    (∀ W, E ≠ 0 → Calls Tryz.prog 147 #[.string s, .int .u64 most] W fun e w' => e = .panicked (stopP E) ∧ Kp none' W w') := by
  have hle := numE_le most (bl s)
  obtain ⟨r, hr⟩ : ∃ r, numE most (bl s) = r := ⟨_, rfl⟩
  obtain ⟨n, E⟩ := r
  rw [hr] at hle
  exact ⟨n, E, hr, hle, fun W h => cNumOk s hs most n (by rw [hr, h]) W, fun W h => cNumBad s hs most n E hr h W⟩
theorem numE_val {most n : Nat} {l : List UInt8} (h : numE most l = (n, 0)) : (rdU l).1 = n := by
  by_cases h0 : (rdU l).2 = 0
  · by_cases h1 : most < (rdU l).1
    · rw [numE_bad2 h0 h1] at h; exact absurd (Prod.mk.inj h).2 (by decide)
    · rw [numE_good h0 h1] at h; exact (Prod.mk.inj h).1
  · rw [numE_bad1 h0] at h; exact absurd (Prod.mk.inj h).2 h0
theorem fl_all {l0 l1 l2 l3 l4 : List UInt8} {n0 n1 n2 n3 n4 : Nat} {E0 E1 E2 E3 E4 : Int} (h0 : numE 4294967295 l0 = (n0, E0)) (h1 : numE 18446744073709551615 l1 = (n1, E1)) (h2 : numE 18446744073709551615 l2 = (n2, E2))
    (h3 : numE 18446744073709551615 l3 = (n3, E3)) (h4 : numE 18446744073709551615 l4 = (n4, E4)) :
    flE 0 [l0, l1, l2, l3, l4] = (if E0 ≠ 0 then E0 else if E1 ≠ 0 then E1 else if E2 ≠ 0 then E2 else if E3 ≠ 0 then E3 else if E4 ≠ 0 then E4 else 0) ∧
    (E0 = 0 → E1 = 0 → E2 = 0 → E3 = 0 → E4 = 0 → flV [l0, l1, l2, l3, l4] = ⟨n0, n1, n2, n3, n4⟩) := by
  refine ⟨?_, fun e0 e1 e2 e3 e4 => ?_⟩
  · simp only [flE, mostF, if_true, Nat.zero_add, Nat.reduceAdd, Nat.reduceEqDiff, if_false, h0, h1, h2, h3, h4]
  · subst e0 e1 e2 e3 e4
    unfold flV
    rw [← numE_val h0, ← numE_val h1, ← numE_val h2, ← numE_val h3, ← numE_val h4]; rfl
def FlP (F : Int) (G : Value → World → Prop) (w : World) (S : Nat → Prop) (e : Ending) (w' : World) : Prop :=
  (F = 0 ∧ e = .returned (.tuple #[]) ∧ (∃ v', G v' w') ∧ Kp S w w') ∨ (F ≠ 0 ∧ e = .panicked (stopP F) ∧ Kp none' w w')
def flJ (n0 n1 n2 n3 n4 : Nat) : Nat → List Value
  | 0 => [.int .u32 n0, .int .u64 0, .int .u64 0, .int .u64 0, .int .u64 0]
  | 1 => [.int .u32 n0, .int .u64 n1, .int .u64 0, .int .u64 0, .int .u64 0]
  | 2 => [.int .u32 n0, .int .u64 n1, .int .u64 n2, .int .u64 0, .int .u64 0]
  | 3 => [.int .u32 n0, .int .u64 n1, .int .u64 n2, .int .u64 n3, .int .u64 0]
  | _ => [.int .u32 n0, .int .u64 n1, .int .u64 n2, .int .u64 n3, .int .u64 n4]
theorem ixP0 (a b c d : Value) (w : World) : (Instr.index 312 (.agg #[a, b, c, d]) (.int .i64 0)).run Tryz.prog w = .ok a w := by kernel_rfl
theorem ixP1 (a b c d : Value) (w : World) : (Instr.index 312 (.agg #[a, b, c, d]) (.int .i64 1)).run Tryz.prog w = .ok b w := by kernel_rfl
theorem ixP2 (a b c d : Value) (w : World) : (Instr.index 312 (.agg #[a, b, c, d]) (.int .i64 2)).run Tryz.prog w = .ok c w := by kernel_rfl
theorem ixP3 (a b c d : Value) (w : World) : (Instr.index 312 (.agg #[a, b, c, d]) (.int .i64 3)).run Tryz.prog w = .ok d w := by kernel_rfl
theorem flw_ok {n0 n1 n2 n3 n4 : Nat} (h0 : n0 ≤ 4294967295) (h1 : n1 ≤ 18446744073709551615) (h2 : n2 ≤ 18446744073709551615) (h3 : n3 ≤ 18446744073709551615) (h4 : n4 ≤ 18446744073709551615) : (FlR.mk n0 n1 n2 n3 n4).ok := ⟨by simp only; omega, by simp only; omega, by simp only; omega, by simp only; omega, by simp only; omega⟩
theorem ok_flow {c : CfR} (h : c.ok) {f : FlR} (hf : f.ok) : ({ c with flows := c.flows ++ [f] } : CfR).ok :=
  ⟨h.rank, h.back, h.levels, h.queues, h.packets, h.bytes, h.share, h.mtu, h.rate, h.burst, fun g hg => by
    rcases List.mem_append.1 hg with hg | hg
    · exact h.flows g hg
    · simp at hg; subst hg; exact hf⟩
set_option maxRecDepth 100000 in
set_option maxHeartbeats 8000000 in
theorem cFlow (x0 x1 x2 x3 x4 : ByteArray) (z0 : x0.size ≤ 1000000) (z1 : x1.size ≤ 1000000) (z2 : x2.size ≤ 1000000) (z3 : x3.size ≤ 1000000) (z4 : x4.size ≤ 1000000) (B rb mb : Nat) (v : Value) (c : CfR) (w : World) (hr : RdC w B rb mb v c) (hf : c.flows.length < 100000)
    (g cap : Nat) (d0 : w.cell? ⟨g, 1, none⟩ = some (.string x0)) (d1 : w.cell? ⟨g, 2, none⟩ = some (.string x1)) (d2 : w.cell? ⟨g, 3, none⟩ = some (.string x2)) (d3 : w.cell? ⟨g, 4, none⟩ = some (.string x3)) (d4 : w.cell? ⟨g, 5, none⟩ = some (.string x4)) :
    Calls Tryz.prog 148 #[.pointer (some ⟨rb, 0, none⟩), .slice (some ⟨g, 1, none⟩) 5 cap] w fun e w' =>
      FlP (flE 0 [bl x0, bl x1, bl x2, bl x3, bl x4]) (fun v' W => RdC W B rb mb v' { c with flows := c.flows ++ [flV [bl x0, bl x1, bl x2, bl x3, bl x4]] }) w (fun b => b = rb ∨ v.ownBlock = some b) e w' := by
  obtain ⟨n0, E0, q0, m0, O0, P0⟩ := cNum x0 z0 4294967295
  obtain ⟨n1, E1, q1, m1, O1, P1⟩ := cNum x1 z1 18446744073709551615
  obtain ⟨n2, E2, q2, m2, O2, P2⟩ := cNum x2 z2 18446744073709551615
  obtain ⟨n3, E3, q3, m3, O3, P3⟩ := cNum x3 z3 18446744073709551615
  obtain ⟨n4, E4, q4, m4, O4, P4⟩ := cNum x4 z4 18446744073709551615
  obtain ⟨hF, hV⟩ := fl_all q0 q1 q2 q3 q4
  obtain ⟨F, hFF⟩ : ∃ F, flE 0 [bl x0, bl x1, bl x2, bl x3, bl x4] = F := ⟨_, rfl⟩
  obtain ⟨f, hff⟩ : ∃ f, flV [bl x0, bl x1, bl x2, bl x3, bl x4] = f := ⟨_, rfl⟩
  rw [hFF] at hF ⊢
  rw [hff] at hV ⊢
  have HF0 : Hid (E0 ≠ 0 → F = E0) := fun h => by rw [hF, if_pos h]
  have HF1 : Hid (E0 = 0 → E1 ≠ 0 → F = E1) := fun h0 h => by rw [hF, if_neg (by simp [h0]), if_pos h]
  have HF2 : Hid (E0 = 0 → E1 = 0 → E2 ≠ 0 → F = E2) := fun h0 h1 h => by rw [hF, if_neg (by simp [h0]), if_neg (by simp [h1]), if_pos h]
  have HF3 : Hid (E0 = 0 → E1 = 0 → E2 = 0 → E3 ≠ 0 → F = E3) := fun h0 h1 h2 h => by rw [hF, if_neg (by simp [h0]), if_neg (by simp [h1]), if_neg (by simp [h2]), if_pos h]
  have HF4 : Hid (E0 = 0 → E1 = 0 → E2 = 0 → E3 = 0 → E4 ≠ 0 → F = E4) := fun h0 h1 h2 h3 h => by rw [hF, if_neg (by simp [h0]), if_neg (by simp [h1]), if_neg (by simp [h2]), if_neg (by simp [h3]), if_pos h]
  have HF5 : Hid (E0 = 0 → E1 = 0 → E2 = 0 → E3 = 0 → E4 = 0 → F = 0 ∧ f = ⟨n0, n1, n2, n3, n4⟩) := fun h0 h1 h2 h3 h4 => ⟨by rw [hF, if_neg (by simp [h0]), if_neg (by simp [h1]), if_neg (by simp [h2]), if_neg (by simp [h3]), if_neg (by simp [h4])], hV h0 h1 h2 h3 h4⟩
  have M0 := Lib.hid O0; have M1 := Lib.hid O1; have M2 := Lib.hid O2; have M3 := Lib.hid O3; have M4 := Lib.hid O4
  have N0 := Lib.hid P0; have N1 := Lib.hid P1; have N2 := Lib.hid P2; have N3 := Lib.hid P3; have N4 := Lib.hid P4
  have HR := Lib.hid hr
  have hw0 : IntKind.u32.wrap (n0 : Int) = n0 := by rw [IntKind.wrap_u32]; omega
  have HBAD : Hid (∀ E W, F = E → E ≠ 0 → Kp none' w W → FlP F (fun v' W => RdC W B rb mb v' { c with flows := c.flows ++ [f] }) w (fun b => b = rb ∨ v.ownBlock = some b) (.panicked (stopP E)) W) := fun E W h h0 k => .inr ⟨by rw [h]; exact h0, by rw [h], k⟩
  clear O0 O1 O2 O3 O4 P0 P1 P2 P3 P4 q0 q1 q2 q3 q4 hF hV hFF hff hr
  have hx0 := ixP0; have hx1 := ixP1; have hx2 := ixP2; have hx3 := ixP3
  by_cases h0 : E0 = 0
  · have HE0 := Lib.hid h0
    clear h0 HF0 N0
    go_enter Tryz.func148, Tryz.ntmps148
    go_wp2_with fail
    refine (M0.out _ HE0.out).mono ?_
    rintro e w1 ⟨rfl, k1⟩
    have D0 := Lib.hid k1
    have e1 := k1.cell (a := ⟨g, 2, none⟩) d1 (fun x => x)
    have e2 := k1.cell (a := ⟨g, 3, none⟩) d2 (fun x => x)
    have e3 := k1.cell (a := ⟨g, 4, none⟩) d3 (fun x => x)
    have e4 := k1.cell (a := ⟨g, 5, none⟩) d4 (fun x => x)
    have HR1 := Lib.hid (HR.out.old k1)
    clear k1 d0 d1 d2 d3 d4 HR M0
    go_wp2_with fail
    have HB := Lib.hid (show Blk (w1.alloc (.cells #[.int .u32 n0, .int .u64 0, .int .u64 0, .int .u64 0, .int .u64 0] 85)) w1.heap.size (flJ n0 n1 n2 n3 n4 0) 85 from Blk.new w1 (flJ n0 n1 n2 n3 n4 0) 85)
    have K1 := (Kp.refl none' w1).alloc (.cells #[.int .u32 n0, .int .u64 0, .int .u64 0, .int .u64 0, .int .u64 0] 85)
    have HK1 := Lib.hid K1
    have f1 := K1.cell (a := ⟨g, 2, none⟩) e1 (fun x => x)
    have f2 := K1.cell (a := ⟨g, 3, none⟩) e2 (fun x => x)
    have f3 := K1.cell (a := ⟨g, 4, none⟩) e3 (fun x => x)
    have f4 := K1.cell (a := ⟨g, 5, none⟩) e4 (fun x => x)
    have HFB : Hid (w.heap.size ≤ w1.heap.size) := D0.out.size
    have HGB : Hid (g ≠ w1.heap.size) := by have h1 := cell_lt e1; have h2 : g < w1.heap.size := h1; show ¬ _; omega
    have HRB : Hid (rb ≠ w1.heap.size) := by have := HR1.out.blk.lt; show ¬ _; omega
    have HVB : Hid (∀ b, v.ownBlock = some b → b ≠ w1.heap.size) := fun b hb e => by have := (own_block HR1.out.own hb).2; omega
    clear K1 e1 e2 e3 e4
    generalize (w1.alloc (.cells #[.int .u32 n0, .int .u64 0, .int .u64 0, .int .u64 0, .int .u64 0] 85)) = w2 at *
    have HK2 : Hid (Kp none' w w2) := D0.out.trans HK1.out
    have HR2 := Lib.hid (HR1.out.old HK1.out)
    generalize w1.heap.size = fb at *
    clear HR1 HK1 D0
    have HC1 := Lib.hid f1; have HC2 := Lib.hid f2; have HC3 := Lib.hid f3; have HC4 := Lib.hid f4
    clear f1 f2 f3 f4
    go_loopw [18] (fun i0 wr => ∃ j : Nat, i0 = .int .i64 j ∧ j ≤ 4 ∧ Hid (Blk wr fb (flJ n0 n1 n2 n3 n4 j) 85) ∧ Hid (Kp (fun b => b = fb) w2 wr) ∧ Hid ((1 ≤ j → E1 = 0) ∧ (2 ≤ j → E2 = 0) ∧ (3 ≤ j → E3 = 0) ∧ (4 ≤ j → E4 = 0))) (fun i0 _ => 4 - (intOf i0).toNat)
    case atStart => exact ⟨0, rfl, by omega, HB.out, Kp.refl _ _, ⟨fun h => by omega, fun h => by omega, fun h => by omega, fun h => by omega⟩⟩
    case round =>
      obtain ⟨j, rfl, hj, HBr, HKr, HJ⟩ := hrel
      have hj4 : j = 0 ∨ j = 1 ∨ j = 2 ∨ j = 3 ∨ j = 4 := by omega
      rcases hj4 with rfl | rfl | rfl | rfl | rfl
      · have x1 := HKr.out.cell (a := ⟨g, 2, none⟩) HC1.out HGB.out
        by_cases hk : E1 = 0
        · have HEk := Lib.hid hk
          clear hk
          go_wp2_with fail
          refine (M1.out _ HEk.out).mono ?_
          rintro e w5 ⟨rfl, k5⟩
          have hb5 := HBr.out.kp k5 (fun x => x)
          have y0 := hb5.cell 1 rfl
          have y1 := hb5.fz 1
          have HB5 : Hid (Blk (w5.setCell ⟨fb, 1, none⟩ (.int .u64 n1)) fb (flJ n0 n1 n2 n3 n4 1) 85) := hb5.set 1 _
          have HK5 : Hid (Kp (fun b => b = fb) w2 (w5.setCell ⟨fb, 1, none⟩ (.int .u64 n1))) := (HKr.out.trans (k5.mono (fun _ _ x => x.elim))).set (.inl rfl) _
          clear k5 hb5 x1
          go_wp2_with fail
          go_roundw
          case rel => exact ⟨1, by go_num, by omega, HB5.out, HK5.out, ⟨fun _ => HEk.out, fun h => by omega, fun h => by omega, fun h => by omega⟩⟩
          case measure => simp [intOf]
        · have HEk := Lib.hid hk
          have HFE := Lib.hid (HF1.out HE0.out hk)
          clear hk
          go_wp2_with fail
          refine (N1.out _ HEk.out).mono ?_
          rintro e w5 ⟨rfl, k5⟩
          exact ⟨rfl, HBAD.out _ _ HFE.out HEk.out ((HK2.out.then HKr.out (fun i hi e => by have := HFB.out; have e2 : i = fb := e; omega)).trans k5)⟩
      · have x2 := HKr.out.cell (a := ⟨g, 3, none⟩) HC2.out HGB.out
        by_cases hk : E2 = 0
        · have HEk := Lib.hid hk
          clear hk
          go_wp2_with fail
          refine (M2.out _ HEk.out).mono ?_
          rintro e w5 ⟨rfl, k5⟩
          have hb5 := HBr.out.kp k5 (fun x => x)
          have y0 := hb5.cell 2 rfl
          have y1 := hb5.fz 2
          have HB5 : Hid (Blk (w5.setCell ⟨fb, 2, none⟩ (.int .u64 n2)) fb (flJ n0 n1 n2 n3 n4 2) 85) := hb5.set 2 _
          have HK5 : Hid (Kp (fun b => b = fb) w2 (w5.setCell ⟨fb, 2, none⟩ (.int .u64 n2))) := (HKr.out.trans (k5.mono (fun _ _ x => x.elim))).set (.inl rfl) _
          clear k5 hb5 x2
          go_wp2_with fail
          go_roundw
          case rel => exact ⟨2, by go_num, by omega, HB5.out, HK5.out, ⟨fun _ => HJ.out.1 (by omega), fun _ => HEk.out, fun h => by omega, fun h => by omega⟩⟩
          case measure => simp [intOf]
        · have HEk := Lib.hid hk
          have HFE := Lib.hid (HF2.out HE0.out (HJ.out.1 (by omega)) hk)
          clear hk
          go_wp2_with fail
          refine (N2.out _ HEk.out).mono ?_
          rintro e w5 ⟨rfl, k5⟩
          exact ⟨rfl, HBAD.out _ _ HFE.out HEk.out ((HK2.out.then HKr.out (fun i hi e => by have := HFB.out; have e2 : i = fb := e; omega)).trans k5)⟩
      · have x3 := HKr.out.cell (a := ⟨g, 4, none⟩) HC3.out HGB.out
        by_cases hk : E3 = 0
        · have HEk := Lib.hid hk
          clear hk
          go_wp2_with fail
          refine (M3.out _ HEk.out).mono ?_
          rintro e w5 ⟨rfl, k5⟩
          have hb5 := HBr.out.kp k5 (fun x => x)
          have y0 := hb5.cell 3 rfl
          have y1 := hb5.fz 3
          have HB5 : Hid (Blk (w5.setCell ⟨fb, 3, none⟩ (.int .u64 n3)) fb (flJ n0 n1 n2 n3 n4 3) 85) := hb5.set 3 _
          have HK5 : Hid (Kp (fun b => b = fb) w2 (w5.setCell ⟨fb, 3, none⟩ (.int .u64 n3))) := (HKr.out.trans (k5.mono (fun _ _ x => x.elim))).set (.inl rfl) _
          clear k5 hb5 x3
          go_wp2_with fail
          go_roundw
          case rel => exact ⟨3, by go_num, by omega, HB5.out, HK5.out, ⟨fun _ => HJ.out.1 (by omega), fun _ => HJ.out.2.1 (by omega), fun _ => HEk.out, fun h => by omega⟩⟩
          case measure => simp [intOf]
        · have HEk := Lib.hid hk
          have HFE := Lib.hid (HF3.out HE0.out (HJ.out.1 (by omega)) (HJ.out.2.1 (by omega)) hk)
          clear hk
          go_wp2_with fail
          refine (N3.out _ HEk.out).mono ?_
          rintro e w5 ⟨rfl, k5⟩
          exact ⟨rfl, HBAD.out _ _ HFE.out HEk.out ((HK2.out.then HKr.out (fun i hi e => by have := HFB.out; have e2 : i = fb := e; omega)).trans k5)⟩
      · have x4 := HKr.out.cell (a := ⟨g, 5, none⟩) HC4.out HGB.out
        by_cases hk : E4 = 0
        · have HEk := Lib.hid hk
          clear hk
          go_wp2_with fail
          refine (M4.out _ HEk.out).mono ?_
          rintro e w5 ⟨rfl, k5⟩
          have hb5 := HBr.out.kp k5 (fun x => x)
          have y0 := hb5.cell 4 rfl
          have y1 := hb5.fz 4
          have HB5 : Hid (Blk (w5.setCell ⟨fb, 4, none⟩ (.int .u64 n4)) fb (flJ n0 n1 n2 n3 n4 4) 85) := hb5.set 4 _
          have HK5 : Hid (Kp (fun b => b = fb) w2 (w5.setCell ⟨fb, 4, none⟩ (.int .u64 n4))) := (HKr.out.trans (k5.mono (fun _ _ x => x.elim))).set (.inl rfl) _
          clear k5 hb5 x4
          go_wp2_with fail
          go_roundw
          case rel => exact ⟨4, by go_num, by omega, HB5.out, HK5.out, ⟨fun _ => HJ.out.1 (by omega), fun _ => HJ.out.2.1 (by omega), fun _ => HJ.out.2.2.1 (by omega), fun _ => HEk.out⟩⟩
          case measure => simp [intOf]
        · have HEk := Lib.hid hk
          have HFE := Lib.hid (HF4.out HE0.out (HJ.out.1 (by omega)) (HJ.out.2.1 (by omega)) (HJ.out.2.2.1 (by omega)) hk)
          clear hk
          go_wp2_with fail
          refine (N4.out _ HEk.out).mono ?_
          rintro e w5 ⟨rfl, k5⟩
          exact ⟨rfl, HBAD.out _ _ HFE.out HEk.out ((HK2.out.then HKr.out (fun i hi e => by have := HFB.out; have e2 : i = fb := e; omega)).trans k5)⟩
      · have hh0 := HJ.out.1 (by omega)
        have hh1 := HJ.out.2.1 (by omega)
        have hh2 := HJ.out.2.2.1 (by omega)
        have hh3 := HJ.out.2.2.2 (by omega)
        obtain ⟨hF, hf0⟩ := HF5.out HE0.out hh0 hh1 hh2 hh3
        have hb : Blk wr fb (enFl f) 85 := by have := HBr.out; rw [hf0]; exact this
        have hrr := HR2.out.kp HKr.out (fun e => HRB.out e) HVB.out
        have c10 := hrr.blk.cell 10 rfl
        have y10 := hrr.blk.fz 10
        have ca10 := ((Kp.refl none' wr).alloc (.cells #[.int .u32 f.id, .int .u64 f.cost, .int .u64 f.budget, .int .u64 f.size, .int .u64 f.cap] 85)).cell (a := ⟨rb, 10, none⟩) c10 (fun x => x)
        have a0 := hb.cell 0 rfl; have a1 := hb.cell 1 rfl; have a2 := hb.cell 2 rfl; have a3 := hb.cell 3 rfl; have a4 := hb.cell 4 rfl
        obtain ⟨fo, fcap, rfl⟩ := own_shape hrr.own
        have HRR := Lib.hid hrr
        have HFOK : Hid f.ok := by rw [hf0]; exact flw_ok m0 m1 m2 m3 m4
        have HKR : Hid (Kp none' w wr) := HK2.out.then HKr.out (fun i hi e => by have := HFB.out; have e2 : i = fb := e; omega)
        have hnr := hrr.ne
        have HNR := Lib.hid (fun e => hnr (Eq.symm e))
        have hBs : B ≤ wr.heap.size := by have := hrr.blk.lt; have := hrr.lo; omega
        clear hh0 hh1 hh2 hh3 hb hrr HBr HJ hnr hf0
        go_wp2_with fail
        go_region_law ((refine step_app1 tFlw (.tmp 36) (.tmp 38) rfl rfl B (v := .slice fo c.flows.length fcap) ((HRR.out.own.alloc _).drew) (enFl f) rfl rfl rfl (fr := (0, 0)) (heap_new2 _ _ _ (by simp)) rfl (by omega) (by omega) (by simp; omega) ?_); intro g6 cap6 w6 hown6 hgrow6; have hblk6 := ((HRR.out.blk.alloc (.cells #[.int .u32 f.id, .int .u64 f.cost, .int .u64 f.budget, .int .u64 f.size, .int .u64 f.cap] 85)).drew).grown hgrow6 HNR.out; have c10 := hblk6.cell 10 rfl; have y10 := hblk6.fz 10)
        all_goals
          have HEND : Hid (FlP F (fun v' W => RdC W B rb mb v' { c with flows := c.flows ++ [f] }) w (fun b => b = rb ∨ (Value.slice fo c.flows.length fcap).ownBlock = some b) (.returned (.tuple #[])) (w6.setCell ⟨rb, 10, none⟩ (.slice (some ⟨g6, 0, none⟩) (c.flows.length + 1) cap6))) := by
            refine .inl ⟨hF, rfl, ⟨.slice (some ⟨g6, 0, none⟩) (c.flows.length + 1) cap6, hblk6.set 10 _, ?_, ok_flow HRR.out.ok HFOK.out, by simp; omega, HRR.out.lo⟩, ?_⟩
            · have e : ({ c with flows := c.flows ++ [f] } : CfR).flows = c.flows ++ [f] := rfl
              rw [e, List.flatMap_append, List.length_append]
              exact own_setNe (by simpa using hown6) (fun b hb e2 => own_ne_blk hown6 hblk6 (by decide) (by rw [hb, e2])) _
            · have k6 : Kp (fun b => b = rb ∨ (Value.slice fo c.flows.length fcap).ownBlock = some b) wr w6 := (((Kp.refl _ wr).alloc _).drew).grown hgrow6 (fun k hk => .inl (.inr hk))
              exact (HKR.out.mono (fun _ _ x => x.elim)).trans (k6.set (.inl (.inl rfl)) _)
          clear hown6 hgrow6 hblk6 c10 y10 ca10 a0 a1 a2 a3 a4 HRR HKR HNR HF1 HF2 HF3 HF4 HF5 HBAD HKr
          go_wp2_with fail
          go_end0
          exact HEND.out
  · have HE0 := Lib.hid h0
    have HFE := Lib.hid (HF0.out h0)
    clear h0 HF0 M0
    go_enter Tryz.func148, Tryz.ntmps148
    go_wp2_with fail
    refine (N0.out _ HE0.out).mono ?_
    rintro e w1 ⟨rfl, k1⟩
    exact ⟨rfl, HBAD.out _ _ HFE.out HE0.out k1⟩
end Go.Proofs.YtlaakhfgidjofaaGreatDoor
