/- Layer 34: the example; a table that nobody made. -/
import Derived.Test.YthnlggecjdifnaaDoorRuFi
namespace Go.Proofs.YthnlggecjdifnaaDoor
set_option linter.unusedVariables false
set_option linter.unusedSimpArgs false
open Go.RowKit

def exR : List RuN := [⟨(167772160, 8), (0, 0), 53, 53, 1⟩, ⟨(0, 0), (0, 0), 0, 65535, 2⟩]
theorem exR_chk : chkN exR = 0 := by decide +kernel
theorem exR_ok : ∀ r ∈ exR, r.Ok := by
  intro r hr
  simp only [exR, List.mem_cons, List.not_mem_nil, or_false] at hr
  rcases hr with rfl | rfl
  · exact ⟨⟨by decide, by decide, by decide⟩, ⟨by decide, by decide, by decide⟩, by decide, by decide, by decide⟩
  · exact ⟨⟨by decide, by decide, by decide⟩, ⟨by decide, by decide, by decide⟩, by decide, by decide, by decide⟩
theorem exR_1 : flowN exR (⟨0, 0, 0, 167772161, 0, 0, 53⟩ : HdR).n = some 1 := by decide +kernel
theorem exR_2 : flowN exR (⟨0, 0, 0, 167772161, 0, 0, 54⟩ : HdR).n = some 2 := by decide +kernel
theorem exR_sl (w : World) : Sl (w.alloc (.cells (exR.flatMap enR7).toArray 48)) (.slice (some ⟨w.heap.size, 0, none⟩) 2 2) exR.length 7 (exR.flatMap enR7) := by
  refine ⟨rfl, by decide, some ⟨w.heap.size, 0, none⟩, 2, rfl, fun i u hu => ⟨w.heap.size, 0, rfl, ?_⟩⟩
  rw [Nat.zero_add]
  exact (Blk.new w (exR.flatMap enR7) _).cell i hu
set_option maxRecDepth 100000 in
set_option maxHeartbeats 4000000 in
theorem lives34 (w : World) (hT : Tab w) : Calls Tryd.prog 7 #[] w fun e w' => e = .returned (.bool true) ∧ Kp none' w w' := by
  have k0 := (Kp.refl none' w).alloc (.cells (exR.flatMap enR7).toArray 48)
  have HN := Lib.hid (tNewOk exR exR_ok exR_chk _ _ (exR_sl w))
  have HK0 := Lib.hid k0
  have HT := Lib.hid hT
  have hbs : ∀ W, (Instr.buildSlice 22 2 #[(0, .agg #[.int .u32 167772160, .int .i64 8, .int .u32 0, .int .i64 0, .int .u16 53, .int .u16 53, .int .u32 1]), (1, .agg #[.int .u32 0, .int .i64 0, .int .u32 0, .int .i64 0, .int .u16 0, .int .u16 65535, .int .u32 2])]).run Tryd.prog W = .ok (.slice (some ⟨W.heap.size, 0, none⟩) 2 2) (W.alloc (.cells (exR.flatMap enR7).toArray 48)) := fun _ => by kernel_rfl
  clear k0 hT
  go_enter Tryd.func7, Tryd.ntmps7
  go_wp2_with fail
  refine HN.out.mono ?_
  rintro e w1 ⟨tb, rfl, hR, hk1⟩
  have HR := Lib.hid hR; have HK1 := Lib.hid (HK0.out.trans hk1)
  have hf1 := tFlow w1 tb exR exR_ok exR_chk hR (HT.out.kp HK1.out (fun x => x)) ⟨0, 0, 0, 167772161, 0, 0, 53⟩ ⟨by decide, by decide, by decide⟩
  rw [exR_1] at hf1
  have HF1 := Lib.hid hf1
  clear hR hk1 hbs hf1
  go_wp2_with fail
  refine HF1.out.mono ?_
  rintro e w2 ⟨rfl, hk2⟩
  have HK2 := Lib.hid (HK1.out.trans hk2)
  have HR2 := Lib.hid (HR.out.old hk2)
  have hf2 := tFlow w2 tb exR exR_ok exR_chk HR2.out (HT.out.kp HK2.out (fun x => x)) ⟨0, 0, 0, 167772161, 0, 0, 54⟩ ⟨by decide, by decide, by decide⟩
  rw [exR_2] at hf2
  have HF2 := Lib.hid hf2
  clear hk2 hf2
  simp only [atN, isN]
  go_wp2_with fail
  refine HF2.out.mono ?_
  rintro e w3 ⟨rfl, hk3⟩
  have HK3 := Lib.hid (HK2.out.trans hk3)
  have HL := Lib.hid (tLen w3 tb exR (HR2.out.old hk3))
  clear hk3
  simp only [atN, isN]
  go_wp2_with fail
  refine HL.out.mono ?_
  rintro e w4 ⟨rfl, rfl⟩
  rw [show exR.length = 2 from rfl]
  go_wp2_with fail
  go_ret
  exact ⟨rfl, HK3.out⟩
theorem tFindNil (h : HdR) (w : World) : Calls Tryd.prog 9 #[.pointer none, .agg #[.int .u8 h.ds, .int .u16 h.id, .int .u8 h.ttl, .int .u32 h.s, .int .u32 h.d, .int .u16 h.sp, .int .u16 h.p]] w fun e w' => e = .returned (.tuple #[.int .i64 0, .bool false]) ∧ Kp none' w w' := by
  have HL := Lib.hid (fun W => tLenNil W)
  have HK := Lib.hid ((Kp.refl none' w).alloc (.cells #[.int .u8 h.ds, .int .u16 h.id, .int .u8 h.ttl, .int .u32 h.s, .int .u32 h.d, .int .u16 h.sp, .int .u16 h.p] 26))
  go_enter Tryd.func9, Tryd.ntmps9
  go_wp2_with (go_at_call 12; refine (HL.out _).mono ?_; rintro e w1 ⟨rfl, rfl⟩)
  go_ret2
  exact ⟨rfl, HK.out⟩
theorem tFlowNil (h : HdR) (w : World) : Calls Tryd.prog 11 #[.pointer none, .agg #[.int .u8 h.ds, .int .u16 h.id, .int .u8 h.ttl, .int .u32 h.s, .int .u32 h.d, .int .u16 h.sp, .int .u16 h.p]] w fun e w' => e = .returned (.tuple #[.int .u32 0, .bool false]) ∧ Kp none' w w' := by
  have HL := Lib.hid (fun W => tFindNil h W)
  have HK := Lib.hid ((Kp.refl none' w).alloc (.cells #[.int .u8 h.ds, .int .u16 h.id, .int .u8 h.ttl, .int .u32 h.s, .int .u32 h.d, .int .u16 h.sp, .int .u16 h.p] 26))
  go_enter Tryd.func11, Tryd.ntmps11
  go_wp2_with (go_at_call 9; refine (HL.out _).mono ?_; rintro e w1 ⟨rfl, hk1⟩; have HK1 := Lib.hid (HK.out.trans hk1); clear hk1)
  go_ret2
  exact ⟨rfl, HK1.out⟩
set_option maxRecDepth 100000 in
set_option maxHeartbeats 4000000 in
theorem nobodyLaw (h : HdR) (w : World) (hT : Tab w) : Calls Tryd.prog 4 #[.agg #[.int .u8 h.ds, .int .u16 h.id, .int .u8 h.ttl, .int .u32 h.s, .int .u32 h.d, .int .u16 h.sp, .int .u16 h.p]] w fun e w' => e = .returned (.bool true) ∧ Kp none' w w' := by
  have HF := Lib.hid (fun W => tFindNil h W)
  have HG := Lib.hid (fun W => tFlowNil h W)
  have HN := Lib.hid (fun W => tLenNil W)
  have HB := Lib.hid (Blk.new w (enHd h) 26)
  have HK0 := Lib.hid ((Kp.refl none' w).alloc (.cells (enHd h).toArray 26))
  have HL := Lib.hid (fun W (k : Kp none' w W) => lives34 W (hT.kp k (fun x => x)))
  clear hT
  go_enter Tryd.func4, Tryd.ntmps4
  go_wp2_with (first
    | (go_at_call 9; refine (HF.out _).mono ?_; rintro e w1 ⟨rfl, hk1⟩; have HK1 := Lib.hid (HK0.out.trans hk1); have HB1 := Lib.hid (HB.out.kp hk1 (fun x => x)); clear hk1
       have b0 := HB1.out.cell 0 rfl
       have b1 := HB1.out.cell 1 rfl
       have b2 := HB1.out.cell 2 rfl
       have b3 := HB1.out.cell 3 rfl
       have b4 := HB1.out.cell 4 rfl
       have b5 := HB1.out.cell 5 rfl
       have b6 := HB1.out.cell 6 rfl)
    | (go_at_call 11; refine (HG.out _).mono ?_; rintro e w2 ⟨rfl, hk2⟩; have HK2 := Lib.hid (HK1.out.trans hk2); clear hk2 b0 b1 b2 b3 b4 b5 b6)
    | (go_at_call 12; refine (HN.out _).mono ?_; rintro e w3 ⟨rfl, rfl⟩)
    | (go_at_call 7; refine (HL.out _ HK2.out).mono ?_; rintro e w4 ⟨rfl, hk4⟩; have HK4 := Lib.hid (HK2.out.trans hk4); clear hk4))
  go_ret
  exact ⟨rfl, HK4.out⟩
end Go.Proofs.YthnlggecjdifnaaDoor
