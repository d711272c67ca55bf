/- A port's configuration; Check (layer 36). -/
import Derived.Test.YtfckgddodjmbdaaGreatDoorMDeviceNobodyF1
import Derived.Test.YtfckgddodjmbdaaGreatDoorMDeviceNobodyF26
import Derived.Test.YtfckgddodjmbdaaGreatDoorMDeviceNobodyF14
import Derived.Test.YtfckgddodjmbdaaGreatDoorMDeviceNobodyF33
import Derived.Great.BuildSlice
import Derived.Test.YtfckgddodjmbdaaGreatDoorMDeviceNobodyF16
import Derived.Test.YtfckgddodjmbdaaGreatDoorMDeviceNobodyF36
import Derived.Test.YtfckgddodjmbdaaGreatDoorMDeviceNobodyF19
import Derived.Test.YtfckgddodjmbdaaGreatDoorMDeviceNobodyF24
import Derived.Test.YtfckgddodjmbdaaGreatDoorMDeviceNobodyF20
import Derived.Test.YtfckgddodjmbdaaGreatDoorMDeviceNobodyF2
import Derived.Shelf.Spec.TrailingZeros
namespace Go.Proofs.YtfckgddodjmbdaaGreatDoor
set_option linter.unusedVariables false
set_option linter.unusedSimpArgs false
open Go Go.RowKit Go.Shelf Go.Maps
structure PcR where
  c : CfR
  rl : List RuN
  rate : Nat
  near : Nat
  far : Nat
  y : Nat
def enPc (pc : PcR) (v u : Value) : List Value := enC pc.c v ++ [u, .int .u64 pc.rate, .int .u64 pc.near, .int .u64 pc.far, .int .u8 pc.y]
structure PcR.Ok (pc : PcR) : Prop where
  c : pc.c.ok
  rl : ∀ r ∈ pc.rl, r.Ok
  rate : pc.rate < 18446744073709551616
  near : pc.near < 18446744073709551616
  far : pc.far < 18446744073709551616
  y : pc.y < 256
structure PcR.Good (pc : PcR) : Prop where
  chk : chk pc.c = 0
  rules : chkN pc.rl = 0
  rate : pc.rate = 0 ∨ 0 < pc.near ∨ 0 < pc.far
  y : pc.y ≤ 63
set_option maxRecDepth 100000 in
set_option maxHeartbeats 2000000 in
theorem pCheckOk (pc : PcR) (hok : pc.Ok) (hg : pc.Good) (v u : Value) (w : World) (hv : Sl w v pc.c.flows.length 5 (pc.c.flows.flatMap enFl)) (hu : Sl w u pc.rl.length 7 (pc.rl.flatMap enR7)) :
    Calls Tryz.prog 54 #[.agg (enPc pc v u).toArray] w fun e w' => e = .returned (.int .i64 0) ∧ Kp none' w w' := by
  have HC := Lib.hid (fun W (k : Kp none' w W) => by have := gChk pc.c hok.c v W (hv.old k); rw [hg.chk] at this; exact this)
  have HR := Lib.hid (fun W (k : Kp none' w W) => by have := tCheck pc.rl hok.rl u W (hu.old k); rw [hg.rules] at this; exact this)
  have hrate := hg.rate
  have hy := hg.y
  obtain ⟨ao, cap, rfl⟩ : ∃ ao cap, v = .slice ao pc.c.flows.length cap := by obtain ⟨ao, cap, rfl, _⟩ := hv.is; exact ⟨_, _, rfl⟩
  obtain ⟨ao', cap', rfl⟩ : ∃ ao cap, u = .slice ao pc.rl.length cap := by obtain ⟨ao, cap, rfl, _⟩ := hu.is; exact ⟨_, _, rfl⟩
  have hb0 := Blk.new w (enPc pc (.slice ao pc.c.flows.length cap) (.slice ao' pc.rl.length cap')) 79
  have HB0 := Lib.hid hb0
  have HK0 := Lib.hid ((Kp.refl none' w).alloc (.cells (enPc pc (.slice ao pc.c.flows.length cap) (.slice ao' pc.rl.length cap')).toArray 79))
  clear hok hg hv hu hb0
  obtain ⟨c, rl, rate, near, far, y⟩ := pc
  obtain ⟨rk, bk, lv, qu, pk, bt, sh, mt, rt, bu, fl⟩ := c
  simp only [enPc, enC, List.cons_append, List.nil_append] at *
  have hyi : ¬ (63 : Int) < y := by omega
  go_enter Tryz.func54, Tryz.ntmps54
  go_wp2_with fail
  refine (HC.out _ HK0.out).mono ?_
  rintro e w1 ⟨rfl, hk1⟩
  have HK1 := Lib.hid (HK0.out.trans hk1)
  have HB1 := Lib.hid (HB0.out.kp hk1 (fun x => x))
  have HBX := HB1
  have y0 := HBX.out.cell 0 rfl
  have y1 := HBX.out.cell 1 rfl
  have y2 := HBX.out.cell 2 rfl
  have y3 := HBX.out.cell 3 rfl
  have y4 := HBX.out.cell 4 rfl
  have y5 := HBX.out.cell 5 rfl
  have y6 := HBX.out.cell 6 rfl
  have y7 := HBX.out.cell 7 rfl
  have y8 := HBX.out.cell 8 rfl
  have y9 := HBX.out.cell 9 rfl
  have y10 := HBX.out.cell 10 rfl
  have y11 := HBX.out.cell 11 rfl
  have y12 := HBX.out.cell 12 rfl
  have y13 := HBX.out.cell 13 rfl
  have y14 := HBX.out.cell 14 rfl
  have y15 := HBX.out.cell 15 rfl
  clear hk1 HB0 HK0 HBX
  go_wp2_with fail
  refine (HR.out _ HK1.out).mono ?_
  rintro e w2 ⟨rfl, hk2⟩
  have HK2 := Lib.hid (HK1.out.trans hk2)
  have HB2 := Lib.hid (HB1.out.kp hk2 (fun x => x))
  have HBX := HB2
  clear y0 y1 y2 y3 y4 y5 y6 y7 y8 y9 y10 y11 y12 y13 y14 y15
  have y0 := HBX.out.cell 0 rfl
  have y1 := HBX.out.cell 1 rfl
  have y2 := HBX.out.cell 2 rfl
  have y3 := HBX.out.cell 3 rfl
  have y4 := HBX.out.cell 4 rfl
  have y5 := HBX.out.cell 5 rfl
  have y6 := HBX.out.cell 6 rfl
  have y7 := HBX.out.cell 7 rfl
  have y8 := HBX.out.cell 8 rfl
  have y9 := HBX.out.cell 9 rfl
  have y10 := HBX.out.cell 10 rfl
  have y11 := HBX.out.cell 11 rfl
  have y12 := HBX.out.cell 12 rfl
  have y13 := HBX.out.cell 13 rfl
  have y14 := HBX.out.cell 14 rfl
  have y15 := HBX.out.cell 15 rfl
  clear hk2 HB1 HK1 HBX y0 y1 y2 y3 y4 y5 y6 y7 y8 y9 y10 y11
  by_cases h0 : rate = 0
  · have hr0 : ¬ (0 : Int) < rate := by omega
    clear hrate
    go_wp2_with fail
    go_ret
    exact ⟨rfl, HK2.out⟩
  · have hr0 : (0 : Int) < rate := by omega
    by_cases h1 : near = 0
    · have hn0 : (near : Int) = 0 := by omega
      have hf0 : ¬ (far : Int) = 0 := by omega
      clear hrate
      go_wp2_with fail
      go_ret
      exact ⟨rfl, HK2.out⟩
    · have hn0 : ¬ (near : Int) = 0 := by omega
      clear hrate
      go_wp2_with fail
      go_ret
      exact ⟨rfl, HK2.out⟩
end Go.Proofs.YtfckgddodjmbdaaGreatDoor

namespace Go.Proofs.YtfckgddodjmbdaaGreatDoor
set_option linter.unusedVariables false
set_option linter.unusedSimpArgs false
open Go Go.RowKit Go.Shelf


def flows2 : List FlR := [⟨1, 1, 10, 0, 50⟩, ⟨2, 1, 20, 0, 50⟩]
def cSome (b : Int) : CfR := ⟨2, b, 1, 2, 9, 100, 0, 10, 1, 10, flows2⟩
theorem infoCf : (Tryz.prog.info? 76).map (·.size) = some 11 := by kernel_rfl
set_option maxRecDepth 100000 in
set_option maxHeartbeats 2000000 in
theorem someL (w : World) : Calls Tryz.prog 58 #[] w fun e w' => ∃ b, e = .returned (.agg (enC (cSome 1) (.slice (some ⟨b, 0, none⟩) 2 2)).toArray) ∧ Blk w' b (flows2.flatMap enFl) 158 ∧ w.heap.size ≤ b ∧ Kp none' w w' := by
  refine calls_post ?_
  intro PP HP
  have HZ := Lib.hid (Blk.new w [.int .i64 0, .int .i64 0, .int .i64 0, .int .i64 0, .int .i64 0, .int .u64 0, .int .i64 0, .int .u64 0, .int .u64 0, .int .u64 0, .slice none 0 0] 76)
  have HB := Lib.hid (Blk.new (w.alloc (.cells #[.int .i64 0, .int .i64 0, .int .i64 0, .int .i64 0, .int .i64 0, .int .u64 0, .int .i64 0, .int .u64 0, .int .u64 0, .int .u64 0, .slice none 0 0] 76)) [.int .u32 1, .int .u64 1, .int .u64 10, .int .u64 0, .int .u64 50, .int .u32 2, .int .u64 1, .int .u64 20, .int .u64 0, .int .u64 50] 158)
  have e1 : (w.alloc (.cells #[.int .i64 0, .int .i64 0, .int .i64 0, .int .i64 0, .int .i64 0, .int .u64 0, .int .i64 0, .int .u64 0, .int .u64 0, .int .u64 0, .slice none 0 0] 76)).heap.size = w.heap.size + 1 := by simp
  rw [e1] at HB
  have HK := Lib.hid (((Kp.refl none' w).alloc (.cells #[.int .i64 0, .int .i64 0, .int .i64 0, .int .i64 0, .int .i64 0, .int .u64 0, .int .i64 0, .int .u64 0, .int .u64 0, .int .u64 0, .slice none 0 0] 76)).alloc (.cells #[.int .u32 1, .int .u64 1, .int .u64 10, .int .u64 0, .int .u64 50, .int .u32 2, .int .u64 1, .int .u64 20, .int .u64 0, .int .u64 50] 158))
  have HZ1 := Lib.hid (HZ.out.alloc (.cells #[.int .u32 1, .int .u64 1, .int .u64 10, .int .u64 0, .int .u64 50, .int .u32 2, .int .u64 1, .int .u64 20, .int .u64 0, .int .u64 50] 158))
  clear e1
  go_enter Tryz.func58, Tryz.ntmps58
  go_wp2_with (refine wp_store_blk rfl 76 (.tmp 0) (.tmp 4) rfl HZ1.out (enC (cSome 1) (.slice (some ⟨w.heap.size + 1, 0, none⟩) 2 2)) rfl rfl rfl infoCf rfl ?_
               intro W2 hb2 hk2
               have HB2 := Lib.hid hb2
               have HK2 := Lib.hid hk2
               clear hb2 hk2)
  refine ret_blk (by exact rfl) HB2.out _ Tryz.underlying76 rfl infoCf (by exact rfl) (HP.out _ _ ⟨w.heap.size + 1, rfl, HB.out.kp HK2.out (fun e => by omega), by omega, HK.out.then HK2.out (fun z _ e => by omega)⟩)
end Go.Proofs.YtfckgddodjmbdaaGreatDoor

namespace Go.Proofs.YtfckgddodjmbdaaGreatDoor
set_option linter.unusedVariables false
set_option linter.unusedSimpArgs false
open Go Go.RowKit Go.Shelf Go.Maps
theorem infoSt36 : (Tryz.prog.info? 33).map (·.size) = some 36 := by kernel_rfl
set_option maxRecDepth 100000 in
theorem pNum {w : World} {f : PoF} {p : Po} (h : PoM w f p) : Calls Tryz.prog 9 #[.pointer (some ⟨f.pb, 0, none⟩)] w fun e w' => e = .returned (.int .u32 p.num) ∧ w = w' := by
  have c9 := h.top.cell 9 rfl
  clear h
  go_enter Tryz.func9, Tryz.ntmps9
  go_wp2
  go_ret
  exact ⟨rfl, rfl⟩
def flowsS : List FlR := [⟨1, 1, 10, 0, 5000⟩, ⟨2, 1, 20, 0, 50⟩]
def cS : CfR := ⟨2, 1, 1, 2, 9, 5000, 0, 1000, 1000, 1000, flowsS⟩
def rlS : List RuN := [⟨(0, 0), (0, 0), 0, 65535, 1⟩]
def pcS : PcR := ⟨cS, rlS, 0, 0, 0, 0⟩
set_option maxRecDepth 100000 in
set_option maxHeartbeats 1000000 in
theorem someP (w : World) : Calls Tryz.prog 26 #[] w fun e w' => ∃ b b2, e = .returned (.agg (enPc pcS (.slice (some ⟨b, 0, none⟩) 2 2) (.slice (some ⟨b2, 0, none⟩) 1 1)).toArray) ∧ Blk w' b (flowsS.flatMap enFl) 158 ∧ Blk w' b2 (rlS.flatMap enR7) 160 ∧ w.heap.size ≤ b ∧ w.heap.size ≤ b2 ∧ Kp none' w w' := by
  have HS : Hid (∀ W, Calls Tryz.prog 58 #[] W fun e w' => ∃ b, e = .returned (.agg #[.int .i64 2, .int .i64 1, .int .i64 1, .int .i64 2, .int .i64 9, .int .u64 100, .int .i64 0, .int .u64 10, .int .u64 1, .int .u64 10, .slice (some ⟨b, 0, none⟩) 2 2]) ∧
      Blk w' b [.int .u32 1, .int .u64 1, .int .u64 10, .int .u64 0, .int .u64 50, .int .u32 2, .int .u64 1, .int .u64 20, .int .u64 0, .int .u64 50] 158 ∧ W.heap.size ≤ b ∧ Kp none' W w') := Lib.hid (fun W => someL W)
  have HR0 := Lib.hid (Blk.new w [.int .i64 0, .int .i64 0, .int .i64 0, .int .i64 0, .int .i64 0, .int .u64 0, .int .i64 0, .int .u64 0, .int .u64 0, .int .u64 0, .slice none 0 0, .slice none 0 0, .int .u64 0, .int .u64 0, .int .u64 0, .int .u8 0] 80)
  have HK0 := Lib.hid ((Kp.refl none' w).alloc (.cells #[.int .i64 0, .int .i64 0, .int .i64 0, .int .i64 0, .int .i64 0, .int .u64 0, .int .i64 0, .int .u64 0, .int .u64 0, .int .u64 0, .slice none 0 0, .slice none 0 0, .int .u64 0, .int .u64 0, .int .u64 0, .int .u8 0] 80))
  go_enter Tryz.func26, Tryz.ntmps26
  go_wp2_with fail
  refine (HS.out _).mono ?_
  rintro e w1 ⟨b, rfl, hb1, hle, hk1⟩
  have HB1 := Lib.hid hb1
  have HR1 := Lib.hid (HR0.out.kp hk1 (fun x => x))
  have HK1 := Lib.hid (HK0.out.trans hk1)
  have hbl := hb1.lt
  have c4 := hb1.cell 4 rfl
  have z4 := hb1.fz 4
  rw [World.size_alloc] at hle
  have HLE := Lib.hid hle
  clear hb1 hle hk1 HR0 HK0
  go_upto_region 3 with fail
  have hk2 : Kp none' w1 (w1.alloc (.cells #[.int .i64 2, .int .i64 1, .int .i64 1, .int .i64 2, .int .i64 9, .int .u64 5000, .int .i64 0, .int .u64 1000, .int .u64 1000, .int .u64 1000, .slice (some ⟨b, 0, none⟩) 2 2] 76)) := (Kp.refl _ _).alloc _
  have hc2 := Blk.new w1 [.int .i64 2, .int .i64 1, .int .i64 1, .int .i64 2, .int .i64 9, .int .u64 5000, .int .i64 0, .int .u64 1000, .int .u64 1000, .int .u64 1000, .slice (some ⟨b, 0, none⟩) 2 2] 76
  obtain ⟨W2, hW2⟩ : ∃ W2, w1.alloc (.cells #[.int .i64 2, .int .i64 1, .int .i64 1, .int .i64 2, .int .i64 9, .int .u64 5000, .int .i64 0, .int .u64 1000, .int .u64 1000, .int .u64 1000, .slice (some ⟨b, 0, none⟩) 2 2] 76) = W2 := ⟨_, rfl⟩
  obtain ⟨cb, hcb⟩ : ∃ cb, w1.heap.size = cb := ⟨_, rfl⟩
  rw [hW2] at hk2
  have hc2' : Blk W2 cb [.int .i64 2, .int .i64 1, .int .i64 1, .int .i64 2, .int .i64 9, .int .u64 5000, .int .i64 0, .int .u64 1000, .int .u64 1000, .int .u64 1000, .slice (some ⟨b, 0, none⟩) 2 2] 76 := by rw [← hW2, ← hcb]; exact hc2
  rw [hW2, hcb]
  have HC2 := Lib.hid hc2'
  have HB2 := Lib.hid (HB1.out.kp hk2 (fun x => x))
  have HR2 := Lib.hid (HR1.out.kp hk2 (fun x => x))
  have HK2 := Lib.hid (HK1.out.trans hk2)
  have hbc : b < cb := by omega
  have HBC := Lib.hid hbc
  have c4 := HB2.out.cell 4 rfl
  have z4 := HB2.out.fz 4
  have c10 := hc2'.cell 10 rfl
  have hrl := HR1.out.lt
  have HRL := Lib.hid hrl
  clear hk2 hc2 hc2' hW2 hcb HB1 HR1 HK1 hbl hbc hrl
  go_upto_region 4 with fail
  have hle := HLE.out
  have hbc := HBC.out
  have ks := kp_at W2 b 4 (.int .u64 5000)
  have hb3 : Blk (W2.setCell ⟨b, 4, none⟩ (.int .u64 5000)) b [.int .u32 1, .int .u64 1, .int .u64 10, .int .u64 0, .int .u64 5000, .int .u32 2, .int .u64 1, .int .u64 20, .int .u64 0, .int .u64 50] 158 := HB2.out.set 4 (.int .u64 5000)
  have hc3 := HC2.out.kp ks (by omega)
  have hr3 := HR2.out.kp ks (by omega)
  have hk3 : Kp none' w (W2.setCell ⟨b, 4, none⟩ (.int .u64 5000)) := HK2.out.set (.inr (by show w.heap.size ≤ b; omega)) _
  obtain ⟨W3, hW3⟩ : ∃ W3, W2.setCell ⟨b, 4, none⟩ (.int .u64 5000) = W3 := ⟨_, rfl⟩
  rw [hW3] at hb3 hc3 hr3 hk3 ⊢
  have HC3 := Lib.hid hc3
  have HB3 := Lib.hid hb3
  have HR3 := Lib.hid hr3
  have HK3 := Lib.hid hk3
  have HN3 := Lib.hid (Blk.new W3 [.int .u32 0, .int .i64 0, .int .u32 0, .int .i64 0, .int .u16 0, .int .u16 65535, .int .u32 1] 160)
  have HR4 := Lib.hid (hr3.alloc (.cells #[.int .u32 0, .int .i64 0, .int .u32 0, .int .i64 0, .int .u16 0, .int .u16 65535, .int .u32 1] 160))
  have HB4 := Lib.hid (hb3.alloc (.cells #[.int .u32 0, .int .i64 0, .int .u32 0, .int .i64 0, .int .u16 0, .int .u16 65535, .int .u32 1] 160))
  have HK4 := Lib.hid (hk3.alloc (.cells #[.int .u32 0, .int .i64 0, .int .u32 0, .int .i64 0, .int .u16 0, .int .u16 65535, .int .u32 1] 160))
  have hs3 := hk3.size
  have HS3 := Lib.hid hs3
  have hrs := hr3.lt
  have HRS := Lib.hid hrs
  have y0 := hc3.cell 0 rfl
  have y1 := hc3.cell 1 rfl
  have y2 := hc3.cell 2 rfl
  have y3 := hc3.cell 3 rfl
  have y4 := hc3.cell 4 rfl
  have y5 := hc3.cell 5 rfl
  have y6 := hc3.cell 6 rfl
  have y7 := hc3.cell 7 rfl
  have y8 := hc3.cell 8 rfl
  have y9 := hc3.cell 9 rfl
  have y10 := hc3.cell 10 rfl
  have hbs : ∀ W, (Instr.buildSlice 77 1 #[(0, .agg #[.int .u32 0, .int .i64 0, .int .u32 0, .int .i64 0, .int .u16 0, .int .u16 65535, .int .u32 1])]).run Tryz.prog W = .ok (.slice (some ⟨W.heap.size, 0, none⟩) 1 1) (W.alloc (.cells #[.int .u32 0, .int .i64 0, .int .u32 0, .int .i64 0, .int .u16 0, .int .u16 65535, .int .u32 1] 160)) := fun _ => by kernel_rfl
  clear ks hb3 hc3 hr3 hk3 hW3 c4 z4 c10 hle hbc hs3 hrs HR2 HB2 HK2 HC2
  go_wp2_with (refine wp_st_blk rfl 80 (.tmp 0) (.tmp 14) rfl HR4.out (enPc pcS (.slice (some ⟨b, 0, none⟩) 2 2) (.slice (some ⟨W3.heap.size, 0, none⟩) 1 1)) rfl rfl rfl (by kernel_rfl) rfl ?_
               intro W5 hb5 hk5
               have HB5 := Lib.hid hb5
               have HK5 := Lib.hid hk5
               clear hb5 hk5)
  have h1 := HLE.out
  have h2 := HRL.out
  have h3 := HS3.out
  have h4 := HRS.out
  exact ret_blk (by exact rfl) HB5.out _ Tryz.underlying80 rfl (by kernel_rfl) (by exact rfl) ⟨b, W3.heap.size, rfl, HB4.out.kp HK5.out (by omega), HN3.out.kp HK5.out (by omega), by omega, by omega, HK4.out.then HK5.out (fun i h e => by omega)⟩
end Go.Proofs.YtfckgddodjmbdaaGreatDoor

namespace Go.Proofs.YtfckgddodjmbdaaGreatDoor.ti
set_option linter.unusedVariables false
set_option linter.unusedSimpArgs false
set_option linter.unusedVariables false
set_option linter.unusedSimpArgs false
open Go.RowKit
def enNd (p : Px) (u : Bool) (x : Nat) (l r : Tr) : List Value := [.int .u32 p.1, .int .i64 p.2, .bool u, .int .i64 x, l.ptr, r.ptr]
def TrM (w : World) : Tr → Prop
  | .nil => True
  | .node b p u x l r => Blk w b (enNd p u x l r) 168 ∧ TrM w l ∧ TrM w r
theorem TrM.kp {S : Nat → Prop} {w w' : World} {t : Tr} (h : TrM w t) (k : Kp S w w') (hS : ∀ b ∈ t.blks, ¬ S b) : TrM w' t := by
  induction t with
  | nil => trivial
  | node b p u x l r hl hr =>
    obtain ⟨h1, h2, h3⟩ := h
    exact ⟨h1.kp k (hS b (by simp [Tr.blks])), hl h2 (fun b' hb => hS b' (by simp [Tr.blks, hb])), hr h3 (fun b' hb => hS b' (by simp [Tr.blks, hb]))⟩
theorem TrM.old {w w' : World} {t : Tr} (h : TrM w t) (k : Kp none' w w') : TrM w' t := h.kp k (fun _ _ x => x)
set_option maxRecDepth 100000 in
set_option maxHeartbeats 1000000 in
theorem tSide (w : World) (b : Nat) (p : Px) (c : w.cell? ⟨b, 1, none⟩ = some (.int .i64 p.2)) (h31 : p.2 ≤ 31) (a : Nat) (ha : a < 4294967296) :
    Calls Tryz.prog 61 #[.pointer (some ⟨b, 0, none⟩), .int .u32 a] w fun e w' => e = .returned (.int .i64 (sideN p a : Nat)) ∧ w = w' := by
  obtain ⟨k, hk⟩ : ∃ k, 31 - p.2 = k := ⟨_, rfl⟩
  have hki : (31 : Int) - (p.2 : Int) = (k : Int) := by omega
  have hs : sideN p a = a / 2 ^ k % 2 := by unfold sideN; rw [hk]
  rw [hs]
  obtain ⟨q, hq⟩ : ∃ q, a / 2 ^ k = q := ⟨_, rfl⟩
  rw [hq]
  have hql : q < 4294967296 := by rw [← hq]; exact Nat.lt_of_le_of_lt (Nat.div_le_self _ _) ha
  have hqi : (a : Int) / 2 ^ k = (q : Int) := by rw [← hq]; push_cast; rfl
  have hk32 : k ≤ 31 := by omega
  obtain ⟨n, hn⟩ : ∃ n, p.2 = n := ⟨_, rfl⟩
  rw [hn] at c hki
  obtain ⟨s, hsq⟩ : ∃ s, q % 2 = s := ⟨_, rfl⟩
  have hs1 : s ≤ 1 := by omega
  have hband : bits .and .u32 (q : Int) 1 = (s : Int) := by
    have := bits_and_u32_nat q 1 hql (by omega)
    rw [Nat.and_one_is_mod, hsq] at this
    exact this
  rw [hsq]
  clear hs hk hq hn h31 hsq
  go_enter Tryz.func61, Tryz.ntmps61
  go_wp2
  go_ret
  exact ⟨rfl, rfl⟩
end Go.Proofs.YtfckgddodjmbdaaGreatDoor.ti
