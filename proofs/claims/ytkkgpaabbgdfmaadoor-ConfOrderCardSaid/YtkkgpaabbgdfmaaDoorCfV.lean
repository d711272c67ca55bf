/- Layer 24: the laws' example. -/
import Derived.Test.YtkkgpaabbgdfmaaDoorCfT
import Derived.Test.YtkkgpaabbgdfmaaDoorCfS
namespace Go.Proofs.YtkkgpaabbgdfmaaDoor
set_option linter.unusedVariables false
set_option linter.unusedSimpArgs false
open Go Go.RowKit Go.Shelf

def exF : FlR := ⟨1000, 0, 0, 0, 0⟩
def exC : CfR := ⟨1, 2, 1, 1, 1, 1, 0, 1, 1, 1, [exF]⟩
def exS : ByteArray := ⟨([114, 97, 110, 107, 32, 115, 116, 102, 113, 10, 98, 97, 99, 107, 32, 99, 97, 108, 101, 110, 100, 97, 114, 10, 108, 101, 118, 101, 108, 115, 32, 49, 10, 113, 117, 101, 117, 101, 115, 32, 49, 10, 112, 97, 99, 107, 101, 116, 115, 32, 49, 10].append [98, 121, 116, 101, 115, 32, 49, 10, 115, 104, 97, 114, 101, 32, 48, 10, 109, 116, 117, 32, 49, 10, 114, 97, 116, 101, 32, 49, 10, 98, 117, 114, 115, 116, 32, 49, 10, 102, 108, 111, 119, 32, 49, 75, 32, 48, 32, 48, 32, 48, 32, 48, 10]).toArray⟩
theorem exF_ok : exF.ok := ⟨by decide, by decide, by decide, by decide, by decide⟩
theorem exC_ok : exC.ok := ⟨by decide, by decide, by decide, by decide, by decide, by decide, by decide, by decide, by decide, by decide, fun f hf => by
  have : f = exF := by simpa [exC] using hf
  subst this; exact exF_ok⟩
theorem ex_chk : chk exC = 0 := by kernel_rfl
theorem ex_put : tx (putT exC) = exS := by
  have p0 : putU 0 = [48] := by unfold putU; simp [put_lt, digit]
  have p1 : putU 1 = [49] := by unfold putU; simp [put_lt, digit]
  have pk : putU 1000 = [49, 75] := by unfold putU; simp [put_lt, digit]
  have h : putT exC = [114, 97, 110, 107, 32, 115, 116, 102, 113, 10, 98, 97, 99, 107, 32, 99, 97, 108, 101, 110, 100, 97, 114, 10, 108, 101, 118, 101, 108, 115, 32, 49, 10, 113, 117, 101, 117, 101, 115, 32, 49, 10, 112, 97, 99, 107, 101, 116, 115, 32, 49, 10] ++ [98, 121, 116, 101, 115, 32, 49, 10, 115, 104, 97, 114, 101, 32, 48, 10, 109, 116, 117, 32, 49, 10, 114, 97, 116, 101, 32, 49, 10, 98, 117, 114, 115, 116, 32, 49, 10, 102, 108, 111, 119, 32, 49, 75, 32, 48, 32, 48, 32, 48, 32, 48, 10] := by
    unfold putT
    rw [if_pos ex_chk, textC_eq]
    have hf : exC.flows.flatMap flT = [102, 108, 111, 119, 32, 49, 75, 32, 48, 32, 48, 32, 48, 32, 48, 10] := by
      show flT exF ++ [] = _
      rw [flT_eq]
      simp [exF, p0, pk]
    have h0 : lnT exC 0 = [114, 97, 110, 107, 32, 115, 116, 102, 113, 10] := rfl
    have h1 : lnT exC 1 = [98, 97, 99, 107, 32, 99, 97, 108, 101, 110, 100, 97, 114, 10] := rfl
    have h2 : lnT exC 2 = [108, 101, 118, 101, 108, 115, 32, 49, 10] := by
      have e : wordN exC 2 = putU 1 := rfl
      unfold lnT; rw [e, p1]; rfl
    have h3 : lnT exC 3 = [113, 117, 101, 117, 101, 115, 32, 49, 10] := by
      have e : wordN exC 3 = putU 1 := rfl
      unfold lnT; rw [e, p1]; rfl
    have h4 : lnT exC 4 = [112, 97, 99, 107, 101, 116, 115, 32, 49, 10] := by
      have e : wordN exC 4 = putU 1 := rfl
      unfold lnT; rw [e, p1]; rfl
    have h5 : lnT exC 5 = [98, 121, 116, 101, 115, 32, 49, 10] := by
      have e : wordN exC 5 = putU 1 := rfl
      unfold lnT; rw [e, p1]; rfl
    have h6 : lnT exC 6 = [115, 104, 97, 114, 101, 32, 48, 10] := by
      have e : wordN exC 6 = putU 0 := rfl
      unfold lnT; rw [e, p0]; rfl
    have h7 : lnT exC 7 = [109, 116, 117, 32, 49, 10] := by
      have e : wordN exC 7 = putU 1 := rfl
      unfold lnT; rw [e, p1]; rfl
    have h8 : lnT exC 8 = [114, 97, 116, 101, 32, 49, 10] := by
      have e : wordN exC 8 = putU 1 := rfl
      unfold lnT; rw [e, p1]; rfl
    have h9 : lnT exC 9 = [98, 117, 114, 115, 116, 32, 49, 10] := by
      have e : wordN exC 9 = putU 1 := rfl
      unfold lnT; rw [e, p1]; rfl
    rw [hf]
    unfold hdT
    rw [h0, h1, h2, h3, h4, h5, h6, h7, h8, h9]; rfl
  rw [h]; rfl
theorem ex_r1 : readC (bl ⟨#[114, 97, 110, 107, 32, 101, 100, 102, 10, 114, 97, 110, 107, 32, 101, 100, 102]⟩) = (zC, 2, 31) := by kernel_rfl
theorem ex_r2 : readC (bl ⟨#[]⟩) = (zC, 0, 22) := by kernel_rfl
theorem gRd1 (w : World) (hx : MX w) : Calls Tryd.prog 11 #[.string ⟨#[114, 97, 110, 107, 32, 101, 100, 102, 10, 114, 97, 110, 107, 32, 101, 100, 102]⟩] w fun e w' => ∃ ao cap, e = .returned (.tuple #[.agg #[.int .i64 0, .int .i64 0, .int .i64 0, .int .i64 0, .int .i64 0, .int .u64 0, .int .i64 0, .int .u64 0, .int .u64 0, .int .u64 0, .slice ao 0 cap], .int .i64 2, .int .i64 31]) ∧ Kp none' w w' :=
  (gReadC _ (by decide) w hx).mono fun e w' h => by
    obtain ⟨v, rfl, hs, _, k⟩ := h
    rw [ex_r1] at hs ⊢
    obtain ⟨ao, cap, rfl, _⟩ := hs.is
    exact ⟨ao, cap, rfl, k⟩
theorem gRd2 (w : World) (hx : MX w) : Calls Tryd.prog 11 #[.string ⟨#[]⟩] w fun e w' => ∃ ao cap, e = .returned (.tuple #[.agg #[.int .i64 0, .int .i64 0, .int .i64 0, .int .i64 0, .int .i64 0, .int .u64 0, .int .i64 0, .int .u64 0, .int .u64 0, .int .u64 0, .slice ao 0 cap], .int .i64 0, .int .i64 22]) ∧ Kp none' w w' :=
  (gReadC _ (by decide) w hx).mono fun e w' h => by
    obtain ⟨v, rfl, hs, _, k⟩ := h
    rw [ex_r2] at hs ⊢
    obtain ⟨ao, cap, rfl, _⟩ := hs.is
    exact ⟨ao, cap, rfl, k⟩
theorem exSl {w : World} {g : Nat} (hb : Blk w g (enFl exF) 46) : Sl w (.slice (some ⟨g, 0, none⟩) 1 1) exC.flows.length 5 (exC.flows.flatMap enFl) :=
  ⟨rfl, by decide, _, _, rfl, fun i u hu => ⟨g, 0, rfl, by
    have := hb.cell i (show (enFl exF)[i]? = some u from hu)
    rw [Nat.zero_add]; exact this⟩⟩
set_option maxRecDepth 100000 in
set_option maxHeartbeats 4000000 in
theorem lives (w : World) (hx : MX w) : Calls Tryd.prog 7 #[] w fun e w' => e = .returned (.bool true) ∧ Kp none' w w' := by
  have HR1 := Lib.hid (gRd1 w hx)
  have HR2 := Lib.hid (fun W hW => gRd2 W hW)
  have HX := Lib.hid hx
  have HP : Hid (∀ (g : Nat) (W : World), Blk W g (enFl exF) 46 → Calls Tryd.prog 8 #[.agg #[.int .i64 1, .int .i64 2, .int .i64 1, .int .i64 1, .int .i64 1, .int .u64 1, .int .i64 0, .int .u64 1, .int .u64 1, .int .u64 1, .slice (some ⟨g, 0, none⟩) 1 1]] W fun e w' => e = .returned (.tuple #[.string exS, .int .i64 0]) ∧ Kp none' W w') := fun g W hb => by
    have := gPutC exC exC_ok (.slice (some ⟨g, 0, none⟩) 1 1) W (exSl hb)
    rw [ex_put, ex_chk] at this
    exact this
  have HC : Hid (∀ (g : Nat) (W : World), Blk W g (enFl exF) 46 → Calls Tryd.prog 10 #[.agg #[.int .i64 1, .int .i64 2, .int .i64 1, .int .i64 1, .int .i64 1, .int .u64 1, .int .i64 0, .int .u64 1, .int .u64 1, .int .u64 1, .slice (some ⟨g, 0, none⟩) 1 1]] W fun e w' => e = .returned (.int .i64 0) ∧ Kp none' W w') := fun g W hb => by
    have := gChk exC exC_ok (.slice (some ⟨g, 0, none⟩) 1 1) W (exSl hb)
    rw [ex_chk] at this
    exact this
  clear hx
  go_enter Tryd.func7, Tryd.ntmps7
  go_wp2_with fail
  refine (HR1.out).mono ?_
  rintro e w1 ⟨o1, c1, rfl, k1⟩
  have HK1 := Lib.hid k1
  clear k1 HR1
  go_wp2_with fail
  refine (HR2.out _ (HX.out.kp (HK1.out.alloc _))).mono ?_
  rintro e w2 ⟨o2, c2, rfl, k2⟩
  have HK2 := Lib.hid ((HK1.out.alloc _).trans k2)
  clear k2 HR2 HK1
  go_wp2_with fail
  have hk3 : ∀ A F C, Kp none' w (((w2.alloc A).alloc F).alloc C) := fun A F C => ((HK2.out.alloc A).alloc F).alloc C
  have hbf : ∀ A C, Blk (((w2.alloc A).alloc (.cells #[.int .u32 1000, .int .u64 0, .int .u64 0, .int .u64 0, .int .u64 0] 46)).alloc C) (w2.heap.size + 1) (enFl exF) 46 := fun A C => by
    have := Blk.new (w2.alloc A) (enFl exF) 46
    rw [World.size_alloc] at this
    exact this.alloc C
  have hbc : ∀ A F, Blk (((w2.alloc A).alloc F).alloc (.cells #[.int .i64 1, .int .i64 2, .int .i64 1, .int .i64 1, .int .i64 1, .int .u64 1, .int .i64 0, .int .u64 1, .int .u64 1, .int .u64 1, .slice (some ⟨w2.heap.size + 1, 0, none⟩) 1 1] 25)) (w2.heap.size + 1 + 1) [.int .i64 1, .int .i64 2, .int .i64 1, .int .i64 1, .int .i64 1, .int .u64 1, .int .i64 0, .int .u64 1, .int .u64 1, .int .u64 1, .slice (some ⟨w2.heap.size + 1, 0, none⟩) 1 1] 25 := fun A F => by
    have := Blk.new ((w2.alloc A).alloc F) [.int .i64 1, .int .i64 2, .int .i64 1, .int .i64 1, .int .i64 1, .int .u64 1, .int .i64 0, .int .u64 1, .int .u64 1, .int .u64 1, .slice (some ⟨w2.heap.size + 1, 0, none⟩) 1 1] 25
    rw [World.size_alloc, World.size_alloc] at this
    exact this
  refine (HP.out _ _ (hbf _ _)).mono ?_
  rintro e w4 ⟨rfl, k4⟩
  have HF4 := Lib.hid ((hbf _ _).kp k4 (fun x => x))
  have hc4 := (hbc _ _).kp k4 (fun x => x)
  have HK4 := Lib.hid ((hk3 _ _ _).trans k4)
  have d0 := hc4.cell 0 rfl; have d1 := hc4.cell 1 rfl; have d2 := hc4.cell 2 rfl; have d3 := hc4.cell 3 rfl; have d4 := hc4.cell 4 rfl; have d5 := hc4.cell 5 rfl; have d6 := hc4.cell 6 rfl; have d7 := hc4.cell 7 rfl; have d8 := hc4.cell 8 rfl; have d9 := hc4.cell 9 rfl; have d10 := hc4.cell 10 rfl
  clear hk3 hbf hbc k4 hc4 HP HK2
  go_wp2_with fail
  refine (HC.out _ _ HF4.out).mono ?_
  rintro e w5 ⟨rfl, k5⟩
  have HK5 := Lib.hid (HK4.out.trans k5)
  clear k5
  unfold exS
  go_wp2
  go_ret
  exact ⟨by first | rfl | simp, HK5.out⟩
end Go.Proofs.YtkkgpaabbgdfmaaDoor
