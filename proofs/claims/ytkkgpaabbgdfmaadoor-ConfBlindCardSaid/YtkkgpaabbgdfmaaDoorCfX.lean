/- Layer 24: the walk of ConfBlind. -/
import Derived.Test.YtkkgpaabbgdfmaaDoorCfW
namespace Go.Proofs.YtkkgpaabbgdfmaaDoor
set_option linter.unusedVariables false
set_option linter.unusedSimpArgs false
open Go Go.RowKit Go.Shelf

theorem chk_back (c : CfR) (b : Int) (h : 1 ≤ b ∧ b ≤ 3) : chk { c with back := b } = chk { c with back := 1 } := by
  have e : ∀ x : Int, 1 ≤ x → x ≤ 3 → chk { c with back := x } = (if c.rank < 1 ∨ 3 < c.rank then (22 : Int) else if c.levels < 1 ∨ 3 < c.levels then 23 else if c.queues < 1 ∨ 32 < c.queues then 24 else if admE c ≠ 0 then admE c else if c.rate = 0 then 27 else if c.burst < c.mtu then 28 else 0) := fun x h1 h3 => by
    unfold chk
    simp only
    by_cases h : c.rank < 1 ∨ 3 < c.rank
    · rw [if_pos (by omega), if_pos h]
    · rw [if_neg (by omega), if_neg h]; rfl
  rw [e b h.1 h.2, e 1 (by decide) (by decide)]
theorem chk_bad (c : CfR) (b : Int) (h : b < 1 ∨ 3 < b) : chk { c with back := b } = 22 := chk_kind (by simp only; omega)
theorem gChkB (c : CfR) (hc : c.ok) (b : Int) (hb : -9223372036854775808 ≤ b ∧ b ≤ 9223372036854775807) (ao : Option Addr) (cap : Nat) (w : World) (h : Sl w (.slice ao c.flows.length cap) c.flows.length 5 (c.flows.flatMap enFl)) (E : Int) (hE : chk { c with back := b } = E) :
    Calls Tryd.prog 10 #[.agg #[.int .i64 c.rank, .int .i64 b, .int .i64 c.levels, .int .i64 c.queues, .int .i64 c.packets, .int .u64 c.bytes, .int .i64 c.share, .int .u64 c.mtu, .int .u64 c.rate, .int .u64 c.burst, .slice ao c.flows.length cap]] w fun e w' => e = .returned (.int .i64 E) ∧ Kp none' w w' :=
  gChkQ { c with back := b } ⟨hc.rank, hb, hc.levels, hc.queues, hc.packets, hc.bytes, hc.share, hc.mtu, hc.rate, hc.burst, hc.flows⟩ ao cap w h E hE
theorem ixB0 (w : World) : (Instr.index 40 (.agg #[.int .i64 2, .int .i64 3]) (.int .i64 0)).run Tryd.prog w = .ok (.int .i64 2) w := by kernel_rfl
theorem ixB1 (w : World) : (Instr.index 40 (.agg #[.int .i64 2, .int .i64 3]) (.int .i64 1)).run Tryd.prog w = .ok (.int .i64 3) w := by kernel_rfl
def enB (c : CfR) (b : Int) (ao : Option Addr) (cap : Nat) : List Value := [.int .i64 c.rank, .int .i64 b, .int .i64 c.levels, .int .i64 c.queues, .int .i64 c.packets, .int .u64 c.bytes, .int .i64 c.share, .int .u64 c.mtu, .int .u64 c.rate, .int .u64 c.burst, .slice ao c.flows.length cap]
theorem blkB {w : World} {g : Nat} {c : CfR} {b : Int} {ao : Option Addr} {cap : Nat} (h : Blk w g (enB c b ao cap) 25) (x : Int) : Blk (w.setCell ⟨g, 1, none⟩ (.int .i64 x)) g (enB c x ao cap) 25 := h.set 1 _
set_option maxRecDepth 100000 in
set_option maxHeartbeats 4000000 in
theorem blindLaw (c : CfR) (hc : c.ok) (v : Value) (w : World) (hx : MX w) (h : Sl w v c.flows.length 5 (c.flows.flatMap enFl)) : Calls Tryd.prog 5 #[.agg (enC c v).toArray] w fun e w' => e = .returned (.bool true) ∧ Kp none' w w' := by
  obtain ⟨ao, cap, rfl⟩ : ∃ ao cap, v = .slice ao c.flows.length cap := by obtain ⟨ao, cap, rfl, _⟩ := h.is; exact ⟨_, _, rfl⟩
  have HX := Lib.hid hx
  have HL := Lib.hid (fun W hW => lives W hW)
  have HSL := Lib.hid h
  have hk0 := (Kp.refl none' w).alloc (.cells #[.int .i64 c.rank, .int .i64 c.back, .int .i64 c.levels, .int .i64 c.queues, .int .i64 c.packets, .int .u64 c.bytes, .int .i64 c.share, .int .u64 c.mtu, .int .u64 c.rate, .int .u64 c.burst, .slice ao c.flows.length cap] 25)
  have hb0 : Blk (w.alloc (.cells #[.int .i64 c.rank, .int .i64 c.back, .int .i64 c.levels, .int .i64 c.queues, .int .i64 c.packets, .int .u64 c.bytes, .int .i64 c.share, .int .u64 c.mtu, .int .u64 c.rate, .int .u64 c.burst, .slice ao c.flows.length cap] 25)) w.heap.size (enB c c.back ao cap) 25 := Blk.new w (enB c c.back ao cap) 25
  have HB0 := Lib.hid hb0; have HK0 := Lib.hid hk0
  obtain ⟨E, hE⟩ : ∃ E, chk { c with back := 1 } = E := ⟨_, rfl⟩
  have HC1 := Lib.hid (fun W hs => gChkB c hc 1 (by decide) ao cap W hs E hE)
  have HC2 := Lib.hid (fun W hs => gChkB c hc 2 (by decide) ao cap W hs E (by rw [chk_back c 2 (by decide)]; exact hE))
  have HC3 := Lib.hid (fun W hs => gChkB c hc 3 (by decide) ao cap W hs E (by rw [chk_back c 3 (by decide)]; exact hE))
  have HC0 := Lib.hid (fun W hs => gChkB c hc 0 (by decide) ao cap W hs 22 (chk_bad c 0 (by decide)))
  have HC4 := Lib.hid (fun W hs => gChkB c hc 4 (by decide) ao cap W hs 22 (chk_bad c 4 (by decide)))
  have hi0 := ixB0; have hi1 := ixB1
  clear hx h hb0 hk0 hE
  by_cases h100 : 100 < c.flows.length
  · have hi : (100 : Int) < c.flows.length := by omega
    unfold enC
    go_enter Tryd.func5, Tryd.ntmps5
    go_wp2_with fail
    refine (HL.out _ (HX.out.kp HK0.out)).mono ?_
    rintro e w1 ⟨rfl, k1⟩
    have HK := Lib.hid (HK0.out.trans k1)
    clear k1
    go_wp2
    go_ret
    exact ⟨rfl, HK.out⟩
  · have hi : ¬ (100 : Int) < c.flows.length := by omega
    have HB1 : Hid (Blk (w.alloc (.cells #[.int .i64 c.rank, .int .i64 1, .int .i64 c.levels, .int .i64 c.queues, .int .i64 c.packets, .int .u64 c.bytes, .int .i64 c.share, .int .u64 c.mtu, .int .u64 c.rate, .int .u64 c.burst, .slice ao c.flows.length cap] 25)) w.heap.size (enB c 1 ao cap) 25) := Blk.new w (enB c 1 ao cap) 25
    have HK1 : Hid (Kp none' w (w.alloc (.cells #[.int .i64 c.rank, .int .i64 1, .int .i64 c.levels, .int .i64 c.queues, .int .i64 c.packets, .int .u64 c.bytes, .int .i64 c.share, .int .u64 c.mtu, .int .u64 c.rate, .int .u64 c.burst, .slice ao c.flows.length cap] 25))) := (Kp.refl _ _).alloc _
    unfold enC
    go_enter Tryd.func5, Tryd.ntmps5
    go_wp2_with fail
    refine (HC1.out _ (HSL.out.old HK1.out)).mono ?_
    rintro e w2 ⟨rfl, k2⟩
    have HB2 := Lib.hid (HB1.out.kp k2 (fun x => x)); have HK2 := Lib.hid (HK1.out.trans k2)
    obtain ⟨g, hg⟩ : ∃ g, w.heap.size = g := ⟨_, rfl⟩
    have hgl : w.heap.size ≤ g := by omega
    rw [hg] at HB2 ⊢
    clear k2 HB1 HK1 HC1 hg
    go_wp2_with fail
    go_loopw [16] (fun i0 wr => ∃ (j : Nat) (b : Int), i0 = .int .i64 j ∧ j ≤ 2 ∧ Hid (Blk wr g (enB c b ao cap) 25) ∧ Hid (Kp none' w wr)) (fun i0 _ => 2 - (intOf i0).toNat)
    case atStart => exact ⟨0, 1, rfl, by omega, HB2.out, HK2.out⟩
    case round =>
      obtain ⟨j, b, rfl, hj, HBr, HKr⟩ := hrel
      have hj3 : j = 0 ∨ j = 1 ∨ j = 2 := by omega
      have x1 := HBr.out.cell 1 rfl
      have y1 := HBr.out.fz 1
      rcases hj3 with rfl | rfl | rfl
      · have hb4 := blkB HBr.out 2
        have HB4 := Lib.hid hb4
        have HK4 : Hid (Kp none' w (wr.setCell ⟨g, 1, none⟩ (.int .i64 2))) := HKr.out.set (.inr hgl) _
        have d0 := hb4.cell 0 rfl; have d1 := hb4.cell 1 rfl; have d2 := hb4.cell 2 rfl; have d3 := hb4.cell 3 rfl; have d4 := hb4.cell 4 rfl; have d5 := hb4.cell 5 rfl; have d6 := hb4.cell 6 rfl; have d7 := hb4.cell 7 rfl; have d8 := hb4.cell 8 rfl; have d9 := hb4.cell 9 rfl; have d10 := hb4.cell 10 rfl
        clear hb4
        go_wp2_with fail
        refine (HC2.out _ (HSL.out.old HK4.out)).mono ?_
        rintro e w5 ⟨rfl, k5⟩
        have HB5 := Lib.hid (HB4.out.kp k5 (fun x => x)); have HK5 := Lib.hid (HK4.out.trans k5)
        clear k5 d0 d1 d2 d3 d4 d5 d6 d7 d8 d9 d10 HB4 HK4 x1 y1
        go_wp2_with fail
        go_roundw
        case rel => exact ⟨1, 2, by go_num, by omega, HB5.out, HK5.out⟩
        case measure => simp [intOf]
      · have hb4 := blkB HBr.out 3
        have HB4 := Lib.hid hb4
        have HK4 : Hid (Kp none' w (wr.setCell ⟨g, 1, none⟩ (.int .i64 3))) := HKr.out.set (.inr hgl) _
        have d0 := hb4.cell 0 rfl; have d1 := hb4.cell 1 rfl; have d2 := hb4.cell 2 rfl; have d3 := hb4.cell 3 rfl; have d4 := hb4.cell 4 rfl; have d5 := hb4.cell 5 rfl; have d6 := hb4.cell 6 rfl; have d7 := hb4.cell 7 rfl; have d8 := hb4.cell 8 rfl; have d9 := hb4.cell 9 rfl; have d10 := hb4.cell 10 rfl
        clear hb4
        go_wp2_with fail
        refine (HC3.out _ (HSL.out.old HK4.out)).mono ?_
        rintro e w5 ⟨rfl, k5⟩
        have HB5 := Lib.hid (HB4.out.kp k5 (fun x => x)); have HK5 := Lib.hid (HK4.out.trans k5)
        clear k5 d0 d1 d2 d3 d4 d5 d6 d7 d8 d9 d10 HB4 HK4 x1 y1
        go_wp2_with fail
        go_roundw
        case rel => exact ⟨2, 3, by go_num, by omega, HB5.out, HK5.out⟩
        case measure => simp [intOf]
      · have hb4 := blkB HBr.out 0
        have HB4 := Lib.hid hb4
        have HK4 : Hid (Kp none' w (wr.setCell ⟨g, 1, none⟩ (.int .i64 0))) := HKr.out.set (.inr hgl) _
        have d0 := hb4.cell 0 rfl; have d1 := hb4.cell 1 rfl; have d2 := hb4.cell 2 rfl; have d3 := hb4.cell 3 rfl; have d4 := hb4.cell 4 rfl; have d5 := hb4.cell 5 rfl; have d6 := hb4.cell 6 rfl; have d7 := hb4.cell 7 rfl; have d8 := hb4.cell 8 rfl; have d9 := hb4.cell 9 rfl; have d10 := hb4.cell 10 rfl
        clear hb4
        go_wp2_with fail
        refine (HC0.out _ (HSL.out.old HK4.out)).mono ?_
        rintro e w5 ⟨rfl, k5⟩
        have HB5 := Lib.hid (HB4.out.kp k5 (fun x => x)); have HK5 := Lib.hid (HK4.out.trans k5)
        have z1 := HB5.out.cell 1 rfl
        have z2 := HB5.out.fz 1
        have hb6 := blkB HB5.out 4
        have HK6 : Hid (Kp none' w (w5.setCell ⟨g, 1, none⟩ (.int .i64 4))) := HK5.out.set (.inr hgl) _
        clear k5 d0 d1 d2 d3 d4 d5 d6 d7 d8 d9 d10 HB4 HK4 x1 y1
        have f0 := hb6.cell 0 rfl; have f1 := hb6.cell 1 rfl; have f2 := hb6.cell 2 rfl; have f3 := hb6.cell 3 rfl; have f4 := hb6.cell 4 rfl; have f5 := hb6.cell 5 rfl; have f6 := hb6.cell 6 rfl; have f7 := hb6.cell 7 rfl; have f8 := hb6.cell 8 rfl; have f9 := hb6.cell 9 rfl; have f10 := hb6.cell 10 rfl
        clear hb6
        go_wp2_with fail
        refine (HC4.out _ (HSL.out.old HK6.out)).mono ?_
        rintro e w7 ⟨rfl, k7⟩
        have HK7 := Lib.hid (HK6.out.trans k7)
        clear k7 f0 f1 f2 f3 f4 f5 f6 f7 f8 f9 f10 z1 z2
        go_wp2_with fail
        refine (HL.out _ (HX.out.kp HK7.out)).mono ?_
        rintro e w8 ⟨rfl, k8⟩
        have HK8 := Lib.hid (HK7.out.trans k8)
        clear k8
        go_wp2
        go_ret
        exact ⟨rfl, HK8.out⟩
end Go.Proofs.YtkkgpaabbgdfmaaDoor
