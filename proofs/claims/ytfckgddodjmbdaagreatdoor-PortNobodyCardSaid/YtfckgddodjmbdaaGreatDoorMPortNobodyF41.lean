/- A port's Leave (layer 36). -/
import Derived.Test.YtfckgddodjmbdaaGreatDoorMPortNobodyF40
import Derived.Test.YtfckgddodjmbdaaGreatDoorMPortNobodyF1
import Derived.Test.YtfckgddodjmbdaaGreatDoorMPortNobodyF29
import Derived.Test.YtfckgddodjmbdaaGreatDoorMPortNobodyF16
import Derived.Test.YtfckgddodjmbdaaGreatDoorMPortNobodyF37
import Derived.Great.BuildSlice
import Derived.Test.YtfckgddodjmbdaaGreatDoorMPortNobodyF18
namespace Go.Proofs.YtfckgddodjmbdaaGreatDoor
set_option linter.unusedVariables false
set_option linter.unusedSimpArgs false
open Go Go.RowKit Go.Shelf Go.Maps

theorem op_deq_ok : (⟨2, 0, 0, 0, 0⟩ : OpR).ok :=
  ⟨⟨by show (-9223372036854775808 : Int) ≤ 2; decide, by show (2 : Int) ≤ 9223372036854775807; decide⟩, by show 0 < 4294967296; decide, by show 0 < 4294967296; decide, by show 0 < 18446744073709551616; decide, by show 0 < 18446744073709551616; decide⟩
set_option maxRecDepth 100000 in
set_option maxHeartbeats 2000000 in
theorem pLeaYes {w : World} {f : PoF} {p : Po} (h : PoM w f p) (id : Nat) (hid : id < 4294967296) (hv1 : (deqS p.s).1[1]? = some (.int .i64 0)) (hv3 : (deqS p.s).1[3]? = some (.int .u32 id)) (hn : bkN p.s.bk < 9223372036854775807) :
    Calls Tryz.prog 6 #[.pointer (some ⟨f.pb, 0, none⟩)] w fun e w' => e = .returned (.tuple #[.string (tx (p.wt id)), .int .i64 0]) ∧ PoTo w f { p with s := (deqS p.s).2, wt := fun k => if k = id then [] else p.wt k } w' := by
  have HD := Lib.hid (fun W (k : ShM W f.sf p.s) => shDo ⟨2, 0, 0, 0, 0⟩ k op_deq_ok hn)
  have hdo : doS p.s ⟨2, 0, 0, 0, 0⟩ = deqS p.s := by unfold doS; rw [if_neg (by decide), if_pos rfl]
  obtain ⟨vs, hvs⟩ : ∃ vs, (deqS p.s).1 = vs := ⟨_, rfl⟩
  have hr42 := deq42 p.s
  rw [hvs] at hv1 hr42
  obtain ⟨h42, h1c⟩ := hr42
  rw [hdo, hvs] at HD
  obtain ⟨s', hs'⟩ : ∃ s', (deqS p.s).2 = s' := ⟨_, rfl⟩
  rw [hs'] at HD
  have HM := Lib.hid h
  have c0 := h.top.cell 0 rfl
  obtain ⟨pb, hpb⟩ : ∃ pb, f.pb = pb := ⟨_, rfl⟩
  rw [hpb] at c0 ⊢
  have HPB := Lib.hid hpb
  simp only [enO] at HD
  rw [hvs] at hv3
  rw [hs']
  refine calls_post ?_
  intro PP HP
  have HKY := Lib.hid (kU_key id hid)
  clear h hpb hvs hdo hs'
  go_enter Tryz.func6, Tryz.ntmps6
  go_wp2_with fail
  refine (HD.out _ HM.out.sh).mono ?_
  rintro e w6 ⟨rfl, hto⟩
  obtain ⟨f', hm6, hk6, hn6, hsb⟩ := HM.out.shTo hto
  have HM6 := Lib.hid hm6
  have HK6 := Lib.hid hk6
  have HN6 := Lib.hid hn6
  have hz6 : Blk (w6.alloc (.cells #[.int .i64 0, .int .i64 0, .int .u32 0, .int .u32 0, .int .u64 0, .int .u64 0, .int .u64 0, .int .u64 0, .int .i64 0, .int .u64 0, .int .u64 0, .int .u64 0, .int .u64 0, .int .u64 0, .int .u64 0, .int .u64 0, .int .u64 0, .int .u64 0, .int .u64 0, .int .u64 0, .int .u64 0, .int .u64 0, .int .u64 0, .int .u64 0, .int .u64 0, .int .u64 0, .int .u64 0, .int .u64 0, .int .u64 0, .int .u64 0, .int .u64 0, .int .u64 0, .int .u64 0, .int .u64 0, .int .u64 0, .int .u64 0, .int .u64 0, .int .u64 0, .int .u64 0, .int .u64 0, .int .u64 0, .int .u64 0] 67)) w6.heap.size z42 67 := Blk.new w6 z42 67
  have HZ6 := Lib.hid hz6
  clear hto hm6 hk6 hn6 hsb hz6 c0 HD
  go_upto_region 4 with (first
    | (refine wp_st_blk rfl 67 (.tmp 4) (.tmp 20) rfl HZ6.out vs (by rw [h42]; rfl) rfl rfl (by rw [h42]; exact infoRp) h1c ?_
       intro W7 hb7 hk7
       have b1 := hb7.cell 1 hv1
       have HB7 := Lib.hid hb7
       have hk67 : Kp none' w6 W7 := ((Kp.refl none' w6).alloc (.cells #[.int .i64 0, .int .i64 0, .int .u32 0, .int .u32 0, .int .u64 0, .int .u64 0, .int .u64 0, .int .u64 0, .int .i64 0, .int .u64 0, .int .u64 0, .int .u64 0, .int .u64 0, .int .u64 0, .int .u64 0, .int .u64 0, .int .u64 0, .int .u64 0, .int .u64 0, .int .u64 0, .int .u64 0, .int .u64 0, .int .u64 0, .int .u64 0, .int .u64 0, .int .u64 0, .int .u64 0, .int .u64 0, .int .u64 0, .int .u64 0, .int .u64 0, .int .u64 0, .int .u64 0, .int .u64 0, .int .u64 0, .int .u64 0, .int .u64 0, .int .u64 0, .int .u64 0, .int .u64 0, .int .u64 0, .int .u64 0] 67)).then hk7 (fun i h1 h2 => by omega)
       have HM7 := Lib.hid (HM6.out.old hk67)
       have HK7 := Lib.hid (HK6.out.trans (hk67.mono (fun _ _ x => x.elim)))
       have HK67 := Lib.hid hk67
       clear hb7 hk7 hk67 HM6 HK6 HZ6))
  have hpb7 : Blk W7 pb (poC { p with s := s' } { f with sf := f' }) 53 := by rw [← HPB.out]; exact HM7.out.top
  have a8 := hpb7.cell 8 rfl
  have b3 := HB7.out.cell 3 hv3
  have HL := Lib.hid (HM7.out.mp.look id hid)
  clear hpb7
  go_upto_region 6 with fail
  refine wp_region_kept2 [] [0, 1, 2, 3, 4, 5, 6, 7] 8 (by kernel_rfl) (by kernel_rfl) (fun c a d u w h => by cases d <;> exact h) ?_
  simp only [pick, List.getElem?_cons_succ, List.getElem?_cons_zero, List.drop_succ_cons, List.drop_zero]
  show wpKL _ _ _ _ _ _
  repeat (first
    | (refine wpKL_op (by exact rfl) (by as_aux_lemma => intro W hK; have e1 := hK.cell a8 (fun x => x); have e2 := hK.cell b3 (fun x => x); have e3 := HL.out W hK; go_simp; exact rfl) ?_; simp only [Act.put, List.setIfInBounds_toArray, List.set_cons_succ, List.set_cons_zero])
    | (refine wpKL_off (by exact rfl) ?_; simp only [Act.put, List.setIfInBounds_toArray, List.set_cons_succ, List.set_cons_zero]))
  show ∀ W, _ → wpList _ _ _ _ _ _
  intro W8 hK8
  have HM8 := Lib.hid (HM7.out.old hK8)
  have HK8 := Lib.hid (HK7.out.trans (hK8.mono (fun _ _ x => x.elim)))
  have d8 := hK8.cell a8 (fun x => x)
  have d3 := hK8.cell b3 (fun x => x)
  clear hK8 HM7 HK7 HL a8 b3 b1 HB7
  go_upto_region 7 with fail
  refine wp_region_kept2 [] [0, 1, 2, 3, 4, 5, 6] 7 (by kernel_rfl) (by kernel_rfl) (fun c a d u w h => by cases d <;> exact h) ?_
  simp only [pick, List.getElem?_cons_succ, List.getElem?_cons_zero, List.drop_succ_cons, List.drop_zero]
  show wpKL _ _ _ _ _ _
  repeat (first
    | (refine wpKL_op (by exact rfl) (by as_aux_lemma => intro W hK; have e1 := hK.cell d8 (fun x => x); have e2 := hK.cell d3 (fun x => x); go_simp; exact rfl) ?_; simp only [Act.put, List.setIfInBounds_toArray, List.set_cons_succ, List.set_cons_zero])
    | (refine wpKL_off (by exact rfl) ?_; simp only [Act.put, List.setIfInBounds_toArray, List.set_cons_succ, List.set_cons_zero]))
  show ∀ W, _ → wpList _ _ _ _ _ _
  intro W9 hK9
  have HM9 := Lib.hid (HM8.out.old hK9)
  have HK9 := Lib.hid (HK8.out.trans (hK9.mono (fun _ _ x => x.elim)))
  obtain ⟨nn, DD, hown, hnn, hat⟩ := HM9.out.mp.is
  have HOWN := Lib.hid hown
  clear hK9 HM8 HK8 d8 d3 hown
  refine wpList_delete_own _ rfl _ _ 51 24 rfl 9 (int_keyed Tryz.underlying24) Tryz.underlying51 (plainElem (H := Unit) Tryz.prog 9) f.mb nn DD rfl HOWN.out _ _ rfl HKY.out ?_
  intro w10 hown10 hturn10
  have hk10 : Kp (fun b => b = f.mb) W9 w10 := (Kp.refl _ _).grown hturn10.grown (fun k e => .inl (Option.some.inj e).symm)
  have hwt := WtM.del (w := W9) hat hnn id hown10
  have hk10' : Kp (fun b => b = f.pb ∨ b = f.mb) W9 w10 := hk10.mono (fun b _ e => .inr e)
  have hpo := PoM.wait HM9.out (num := p.num) (wt := fun k => if k = id then [] else p.wt k) (HM9.out.top.kp hk10 HM9.out.n1) hwt hk10' HM9.out.ok.num (fun b => by
    show (if b = id then [] else p.wt b).length ≤ _
    split
    · exact Nat.zero_le _
    · exact HM9.out.ok.wl b)
  have HFIN := Lib.hid (HP.out _ w10 ⟨rfl, { f with sf := f' }, hpo, HK9.out.then hk10 (fun b hb e => .inr (.inl e)), HN6.out, rfl, rfl, rfl⟩)
  clear hown10 hturn10 hk10 hk10' hwt hpo HM9 HK9 HP HK67 HOWN hat hnn
  go_wp2_with fail
  exact HFIN.out
end Go.Proofs.YtfckgddodjmbdaaGreatDoor

namespace Go.Proofs.YtfckgddodjmbdaaGreatDoor
set_option linter.unusedVariables false
set_option linter.unusedSimpArgs false
open Go Go.RowKit Go.Shelf

set_option maxRecDepth 100000 in
theorem nArr (s : ByteArray) (w : World) : Calls Tryz.prog 5 #[.pointer none, .string s] w fun e w' => e = .returned (.tuple #[.int .u32 0, .int .i64 10]) ∧ w = w' := by
  go_enter Tryz.func5, Tryz.ntmps5
  go_wp2
  go_ret2
  exact ⟨rfl, rfl⟩
set_option maxRecDepth 100000 in
theorem nLea (w : World) : Calls Tryz.prog 6 #[.pointer none] w fun e w' => e = .returned (.tuple #[.string ⟨#[]⟩, .int .i64 10]) ∧ w = w' := by
  go_enter Tryz.func6, Tryz.ntmps6
  go_wp2
  go_ret2
  exact ⟨rfl, rfl⟩
set_option maxRecDepth 100000 in
theorem nTick (t : Nat) (w : World) : Calls Tryz.prog 7 #[.pointer none, .int .u64 t] w fun e w' => e = .returned (.tuple #[]) ∧ w = w' := by
  go_enter Tryz.func7, Tryz.ntmps7
  go_wp2
  exact bodyPost_ret (results_none rfl _ _ _) rfl ⟨rfl, rfl⟩
set_option maxRecDepth 100000 in
theorem nNum (w : World) : Calls Tryz.prog 9 #[.pointer none] w fun e w' => e = .returned (.int .u32 0) ∧ w = w' := by
  go_enter Tryz.func9, Tryz.ntmps9
  go_wp2
  go_ret
  exact ⟨rfl, rfl⟩
end Go.Proofs.YtfckgddodjmbdaaGreatDoor

namespace Go.Proofs.YtfckgddodjmbdaaGreatDoor
set_option linter.unusedVariables false
set_option linter.unusedSimpArgs false
open Go Go.RowKit Go.Shelf Go.Maps

structure PcR where
  c : CfR
  rl : List RuN
  rate : Nat
  near : Nat
  far : Nat
  y : Nat
def enPc (pc : PcR) (v u : Value) : List Value := enC pc.c v ++ [u, .int .u64 pc.rate, .int .u64 pc.near, .int .u64 pc.far, .int .u8 pc.y]
structure PcR.Ok (pc : PcR) : Prop where
  c : pc.c.ok
  rl : ∀ r ∈ pc.rl, r.Ok
  rate : pc.rate < 18446744073709551616
  near : pc.near < 18446744073709551616
  far : pc.far < 18446744073709551616
  y : pc.y < 256
/-- What a port's configuration must be. -/
structure PcR.Good (pc : PcR) : Prop where
  chk : chk pc.c = 0
  rules : chkN pc.rl = 0
  rate : pc.rate = 0 ∨ 0 < pc.near ∨ 0 < pc.far
  y : pc.y ≤ 63
set_option maxRecDepth 100000 in
set_option maxHeartbeats 2000000 in
theorem pCheckOk (pc : PcR) (hok : pc.Ok) (hg : pc.Good) (v u : Value) (w : World) (hv : Sl w v pc.c.flows.length 5 (pc.c.flows.flatMap enFl)) (hu : Sl w u pc.rl.length 7 (pc.rl.flatMap enR7)) :
    Calls Tryz.prog 54 #[.agg (enPc pc v u).toArray] w fun e w' => e = .returned (.int .i64 0) ∧ Kp none' w w' := by
  have HC := Lib.hid (fun W (k : Kp none' w W) => by have := gChk pc.c hok.c v W (hv.old k); rw [hg.chk] at this; exact this)
  have HR := Lib.hid (fun W (k : Kp none' w W) => by have := tCheck pc.rl hok.rl u W (hu.old k); rw [hg.rules] at this; exact this)
  have hrate := hg.rate
  have hy := hg.y
  obtain ⟨ao, cap, rfl⟩ : ∃ ao cap, v = .slice ao pc.c.flows.length cap := by obtain ⟨ao, cap, rfl, _⟩ := hv.is; exact ⟨_, _, rfl⟩
  obtain ⟨ao', cap', rfl⟩ : ∃ ao cap, u = .slice ao pc.rl.length cap := by obtain ⟨ao, cap, rfl, _⟩ := hu.is; exact ⟨_, _, rfl⟩
  have hb0 := Blk.new w (enPc pc (.slice ao pc.c.flows.length cap) (.slice ao' pc.rl.length cap')) 79
  have HB0 := Lib.hid hb0
  have HK0 := Lib.hid ((Kp.refl none' w).alloc (.cells (enPc pc (.slice ao pc.c.flows.length cap) (.slice ao' pc.rl.length cap')).toArray 79))
  clear hok hg hv hu hb0
  obtain ⟨c, rl, rate, near, far, y⟩ := pc
  obtain ⟨rk, bk, lv, qu, pk, bt, sh, mt, rt, bu, fl⟩ := c
  simp only [enPc, enC, List.cons_append, List.nil_append] at *
  have hyi : ¬ (63 : Int) < y := by omega
  go_enter Tryz.func54, Tryz.ntmps54
  go_wp2_with fail
  refine (HC.out _ HK0.out).mono ?_
  rintro e w1 ⟨rfl, hk1⟩
  have HK1 := Lib.hid (HK0.out.trans hk1)
  have HB1 := Lib.hid (HB0.out.kp hk1 (fun x => x))
  have HBX := HB1
  have y0 := HBX.out.cell 0 rfl
  have y1 := HBX.out.cell 1 rfl
  have y2 := HBX.out.cell 2 rfl
  have y3 := HBX.out.cell 3 rfl
  have y4 := HBX.out.cell 4 rfl
  have y5 := HBX.out.cell 5 rfl
  have y6 := HBX.out.cell 6 rfl
  have y7 := HBX.out.cell 7 rfl
  have y8 := HBX.out.cell 8 rfl
  have y9 := HBX.out.cell 9 rfl
  have y10 := HBX.out.cell 10 rfl
  have y11 := HBX.out.cell 11 rfl
  have y12 := HBX.out.cell 12 rfl
  have y13 := HBX.out.cell 13 rfl
  have y14 := HBX.out.cell 14 rfl
  have y15 := HBX.out.cell 15 rfl
  clear hk1 HB0 HK0 HBX
  go_wp2_with fail
  refine (HR.out _ HK1.out).mono ?_
  rintro e w2 ⟨rfl, hk2⟩
  have HK2 := Lib.hid (HK1.out.trans hk2)
  have HB2 := Lib.hid (HB1.out.kp hk2 (fun x => x))
  have HBX := HB2
  clear y0 y1 y2 y3 y4 y5 y6 y7 y8 y9 y10 y11 y12 y13 y14 y15
  have y0 := HBX.out.cell 0 rfl
  have y1 := HBX.out.cell 1 rfl
  have y2 := HBX.out.cell 2 rfl
  have y3 := HBX.out.cell 3 rfl
  have y4 := HBX.out.cell 4 rfl
  have y5 := HBX.out.cell 5 rfl
  have y6 := HBX.out.cell 6 rfl
  have y7 := HBX.out.cell 7 rfl
  have y8 := HBX.out.cell 8 rfl
  have y9 := HBX.out.cell 9 rfl
  have y10 := HBX.out.cell 10 rfl
  have y11 := HBX.out.cell 11 rfl
  have y12 := HBX.out.cell 12 rfl
  have y13 := HBX.out.cell 13 rfl
  have y14 := HBX.out.cell 14 rfl
  have y15 := HBX.out.cell 15 rfl
  clear hk2 HB1 HK1 HBX y0 y1 y2 y3 y4 y5 y6 y7 y8 y9 y10 y11
  by_cases h0 : rate = 0
  · have hr0 : ¬ (0 : Int) < rate := by omega
    clear hrate
    go_wp2_with fail
    go_ret
    exact ⟨rfl, HK2.out⟩
  · have hr0 : (0 : Int) < rate := by omega
    by_cases h1 : near = 0
    · have hn0 : (near : Int) = 0 := by omega
      have hf0 : ¬ (far : Int) = 0 := by omega
      clear hrate
      go_wp2_with fail
      go_ret
      exact ⟨rfl, HK2.out⟩
    · have hn0 : ¬ (near : Int) = 0 := by omega
      clear hrate
      go_wp2_with fail
      go_ret
      exact ⟨rfl, HK2.out⟩
end Go.Proofs.YtfckgddodjmbdaaGreatDoor

namespace Go.Proofs.YtfckgddodjmbdaaGreatDoor
set_option linter.unusedVariables false
set_option linter.unusedSimpArgs false
open Go Go.RowKit Go.Shelf

end Go.Proofs.YtfckgddodjmbdaaGreatDoor

namespace Go.Proofs.YtfckgddodjmbdaaGreatDoor
set_option linter.unusedVariables false
set_option linter.unusedSimpArgs false
open Go Go.RowKit Go.Shelf

end Go.Proofs.YtfckgddodjmbdaaGreatDoor

namespace Go.Proofs.YtfckgddodjmbdaaGreatDoor
set_option linter.unusedVariables false
set_option linter.unusedSimpArgs false
open Go Go.RowKit Go.Shelf

def flows2 : List FlR := [⟨1, 1, 10, 0, 50⟩, ⟨2, 1, 20, 0, 50⟩]
def cSome (b : Int) : CfR := ⟨2, b, 1, 2, 9, 100, 0, 10, 1, 10, flows2⟩
theorem infoCf : (Tryz.prog.info? 76).map (·.size) = some 11 := by kernel_rfl
set_option maxRecDepth 100000 in
set_option maxHeartbeats 2000000 in
theorem someL (w : World) : Calls Tryz.prog 58 #[] w fun e w' => ∃ b, e = .returned (.agg (enC (cSome 1) (.slice (some ⟨b, 0, none⟩) 2 2)).toArray) ∧ Blk w' b (flows2.flatMap enFl) 158 ∧ w.heap.size ≤ b ∧ Kp none' w w' := by
  refine calls_post ?_
  intro PP HP
  have HZ := Lib.hid (Blk.new w [.int .i64 0, .int .i64 0, .int .i64 0, .int .i64 0, .int .i64 0, .int .u64 0, .int .i64 0, .int .u64 0, .int .u64 0, .int .u64 0, .slice none 0 0] 76)
  have HB := Lib.hid (Blk.new (w.alloc (.cells #[.int .i64 0, .int .i64 0, .int .i64 0, .int .i64 0, .int .i64 0, .int .u64 0, .int .i64 0, .int .u64 0, .int .u64 0, .int .u64 0, .slice none 0 0] 76)) [.int .u32 1, .int .u64 1, .int .u64 10, .int .u64 0, .int .u64 50, .int .u32 2, .int .u64 1, .int .u64 20, .int .u64 0, .int .u64 50] 158)
  have e1 : (w.alloc (.cells #[.int .i64 0, .int .i64 0, .int .i64 0, .int .i64 0, .int .i64 0, .int .u64 0, .int .i64 0, .int .u64 0, .int .u64 0, .int .u64 0, .slice none 0 0] 76)).heap.size = w.heap.size + 1 := by simp
  rw [e1] at HB
  have HK := Lib.hid (((Kp.refl none' w).alloc (.cells #[.int .i64 0, .int .i64 0, .int .i64 0, .int .i64 0, .int .i64 0, .int .u64 0, .int .i64 0, .int .u64 0, .int .u64 0, .int .u64 0, .slice none 0 0] 76)).alloc (.cells #[.int .u32 1, .int .u64 1, .int .u64 10, .int .u64 0, .int .u64 50, .int .u32 2, .int .u64 1, .int .u64 20, .int .u64 0, .int .u64 50] 158))
  have HZ1 := Lib.hid (HZ.out.alloc (.cells #[.int .u32 1, .int .u64 1, .int .u64 10, .int .u64 0, .int .u64 50, .int .u32 2, .int .u64 1, .int .u64 20, .int .u64 0, .int .u64 50] 158))
  clear e1
  go_enter Tryz.func58, Tryz.ntmps58
  go_wp2_with (refine wp_store_blk rfl 76 (.tmp 0) (.tmp 4) rfl HZ1.out (enC (cSome 1) (.slice (some ⟨w.heap.size + 1, 0, none⟩) 2 2)) rfl rfl rfl infoCf rfl ?_
               intro W2 hb2 hk2
               have HB2 := Lib.hid hb2
               have HK2 := Lib.hid hk2
               clear hb2 hk2)
  refine ret_blk (by exact rfl) HB2.out _ Tryz.underlying76 rfl infoCf (by exact rfl) (HP.out _ _ ⟨w.heap.size + 1, rfl, HB.out.kp HK2.out (fun e => by omega), by omega, HK.out.then HK2.out (fun z _ e => by omega)⟩)
end Go.Proofs.YtfckgddodjmbdaaGreatDoor

namespace Go.Proofs.YtfckgddodjmbdaaGreatDoor
set_option linter.unusedVariables false
set_option linter.unusedSimpArgs false
open Go Go.RowKit Go.Shelf Go.Maps

theorem infoSt36 : (Tryz.prog.info? 33).map (·.size) = some 36 := by kernel_rfl
set_option maxRecDepth 100000 in
set_option maxHeartbeats 1000000 in
theorem nStats (w : World) : Calls Tryz.prog 8 #[.pointer none] w fun e w' => e = .returned (.agg zSt.toArray) ∧ Kp none' w w' := by
  have HB0 := Lib.hid (Blk.new w zSt 33)
  have HK0 := Lib.hid ((Kp.refl none' w).alloc (.cells zSt.toArray 33))
  go_enter Tryz.func8, Tryz.ntmps8
  go_wp2_with (refine wp_st_blk rfl 33 (.tmp 2) (.tmp 12) rfl HB0.out zSt rfl rfl rfl infoSt36 rfl ?_; intro W2 hb2 hk2; have HB2 := Lib.hid hb2; have HK2 : Hid (Kp none' w W2) := Lib.hid (HK0.out.then hk2 (fun i h1 h2 => by omega)); clear hb2 hk2)
  exact ret_blk (by exact rfl) HB2.out _ Tryz.underlying33 rfl infoSt36 (by exact rfl) ⟨rfl, HK2.out⟩
set_option maxRecDepth 100000 in
theorem pNum {w : World} {f : PoF} {p : Po} (h : PoM w f p) : Calls Tryz.prog 9 #[.pointer (some ⟨f.pb, 0, none⟩)] w fun e w' => e = .returned (.int .u32 p.num) ∧ w = w' := by
  have c9 := h.top.cell 9 rfl
  clear h
  go_enter Tryz.func9, Tryz.ntmps9
  go_wp2
  go_ret
  exact ⟨rfl, rfl⟩
def flowsS : List FlR := [⟨1, 1, 10, 0, 5000⟩, ⟨2, 1, 20, 0, 50⟩]
def cS : CfR := ⟨2, 1, 1, 2, 9, 5000, 0, 1000, 1000, 1000, flowsS⟩
def rlS : List RuN := [⟨(0, 0), (0, 0), 0, 65535, 1⟩]
def pcS : PcR := ⟨cS, rlS, 0, 0, 0, 0⟩
set_option maxRecDepth 100000 in
set_option maxHeartbeats 1000000 in
theorem someP (w : World) : Calls Tryz.prog 26 #[] w fun e w' => ∃ b b2, e = .returned (.agg (enPc pcS (.slice (some ⟨b, 0, none⟩) 2 2) (.slice (some ⟨b2, 0, none⟩) 1 1)).toArray) ∧ Blk w' b (flowsS.flatMap enFl) 158 ∧ Blk w' b2 (rlS.flatMap enR7) 160 ∧ w.heap.size ≤ b ∧ w.heap.size ≤ b2 ∧ Kp none' w w' := by
  have HS : Hid (∀ W, Calls Tryz.prog 58 #[] W fun e w' => ∃ b, e = .returned (.agg #[.int .i64 2, .int .i64 1, .int .i64 1, .int .i64 2, .int .i64 9, .int .u64 100, .int .i64 0, .int .u64 10, .int .u64 1, .int .u64 10, .slice (some ⟨b, 0, none⟩) 2 2]) ∧
      Blk w' b [.int .u32 1, .int .u64 1, .int .u64 10, .int .u64 0, .int .u64 50, .int .u32 2, .int .u64 1, .int .u64 20, .int .u64 0, .int .u64 50] 158 ∧ W.heap.size ≤ b ∧ Kp none' W w') := Lib.hid (fun W => someL W)
  have HR0 := Lib.hid (Blk.new w [.int .i64 0, .int .i64 0, .int .i64 0, .int .i64 0, .int .i64 0, .int .u64 0, .int .i64 0, .int .u64 0, .int .u64 0, .int .u64 0, .slice none 0 0, .slice none 0 0, .int .u64 0, .int .u64 0, .int .u64 0, .int .u8 0] 80)
  have HK0 := Lib.hid ((Kp.refl none' w).alloc (.cells #[.int .i64 0, .int .i64 0, .int .i64 0, .int .i64 0, .int .i64 0, .int .u64 0, .int .i64 0, .int .u64 0, .int .u64 0, .int .u64 0, .slice none 0 0, .slice none 0 0, .int .u64 0, .int .u64 0, .int .u64 0, .int .u8 0] 80))
  go_enter Tryz.func26, Tryz.ntmps26
  go_wp2_with fail
  refine (HS.out _).mono ?_
  rintro e w1 ⟨b, rfl, hb1, hle, hk1⟩
  have HB1 := Lib.hid hb1
  have HR1 := Lib.hid (HR0.out.kp hk1 (fun x => x))
  have HK1 := Lib.hid (HK0.out.trans hk1)
  have hbl := hb1.lt
  have c4 := hb1.cell 4 rfl
  have z4 := hb1.fz 4
  rw [World.size_alloc] at hle
  have HLE := Lib.hid hle
  clear hb1 hle hk1 HR0 HK0
  go_upto_region 3 with fail
  have hk2 : Kp none' w1 (w1.alloc (.cells #[.int .i64 2, .int .i64 1, .int .i64 1, .int .i64 2, .int .i64 9, .int .u64 5000, .int .i64 0, .int .u64 1000, .int .u64 1000, .int .u64 1000, .slice (some ⟨b, 0, none⟩) 2 2] 76)) := (Kp.refl _ _).alloc _
  have hc2 := Blk.new w1 [.int .i64 2, .int .i64 1, .int .i64 1, .int .i64 2, .int .i64 9, .int .u64 5000, .int .i64 0, .int .u64 1000, .int .u64 1000, .int .u64 1000, .slice (some ⟨b, 0, none⟩) 2 2] 76
  obtain ⟨W2, hW2⟩ : ∃ W2, w1.alloc (.cells #[.int .i64 2, .int .i64 1, .int .i64 1, .int .i64 2, .int .i64 9, .int .u64 5000, .int .i64 0, .int .u64 1000, .int .u64 1000, .int .u64 1000, .slice (some ⟨b, 0, none⟩) 2 2] 76) = W2 := ⟨_, rfl⟩
  obtain ⟨cb, hcb⟩ : ∃ cb, w1.heap.size = cb := ⟨_, rfl⟩
  rw [hW2] at hk2
  have hc2' : Blk W2 cb [.int .i64 2, .int .i64 1, .int .i64 1, .int .i64 2, .int .i64 9, .int .u64 5000, .int .i64 0, .int .u64 1000, .int .u64 1000, .int .u64 1000, .slice (some ⟨b, 0, none⟩) 2 2] 76 := by rw [← hW2, ← hcb]; exact hc2
  rw [hW2, hcb]
  have HC2 := Lib.hid hc2'
  have HB2 := Lib.hid (HB1.out.kp hk2 (fun x => x))
  have HR2 := Lib.hid (HR1.out.kp hk2 (fun x => x))
  have HK2 := Lib.hid (HK1.out.trans hk2)
  have hbc : b < cb := by omega
  have HBC := Lib.hid hbc
  have c4 := HB2.out.cell 4 rfl
  have z4 := HB2.out.fz 4
  have c10 := hc2'.cell 10 rfl
  have hrl := HR1.out.lt
  have HRL := Lib.hid hrl
  clear hk2 hc2 hc2' hW2 hcb HB1 HR1 HK1 hbl hbc hrl
  go_upto_region 4 with fail
  have hle := HLE.out
  have hbc := HBC.out
  have ks := kp_at W2 b 4 (.int .u64 5000)
  have hb3 : Blk (W2.setCell ⟨b, 4, none⟩ (.int .u64 5000)) b [.int .u32 1, .int .u64 1, .int .u64 10, .int .u64 0, .int .u64 5000, .int .u32 2, .int .u64 1, .int .u64 20, .int .u64 0, .int .u64 50] 158 := HB2.out.set 4 (.int .u64 5000)
  have hc3 := HC2.out.kp ks (by omega)
  have hr3 := HR2.out.kp ks (by omega)
  have hk3 : Kp none' w (W2.setCell ⟨b, 4, none⟩ (.int .u64 5000)) := HK2.out.set (.inr (by show w.heap.size ≤ b; omega)) _
  obtain ⟨W3, hW3⟩ : ∃ W3, W2.setCell ⟨b, 4, none⟩ (.int .u64 5000) = W3 := ⟨_, rfl⟩
  rw [hW3] at hb3 hc3 hr3 hk3 ⊢
  have HC3 := Lib.hid hc3
  have HB3 := Lib.hid hb3
  have HR3 := Lib.hid hr3
  have HK3 := Lib.hid hk3
  have HN3 := Lib.hid (Blk.new W3 [.int .u32 0, .int .i64 0, .int .u32 0, .int .i64 0, .int .u16 0, .int .u16 65535, .int .u32 1] 160)
  have HR4 := Lib.hid (hr3.alloc (.cells #[.int .u32 0, .int .i64 0, .int .u32 0, .int .i64 0, .int .u16 0, .int .u16 65535, .int .u32 1] 160))
  have HB4 := Lib.hid (hb3.alloc (.cells #[.int .u32 0, .int .i64 0, .int .u32 0, .int .i64 0, .int .u16 0, .int .u16 65535, .int .u32 1] 160))
  have HK4 := Lib.hid (hk3.alloc (.cells #[.int .u32 0, .int .i64 0, .int .u32 0, .int .i64 0, .int .u16 0, .int .u16 65535, .int .u32 1] 160))
  have hs3 := hk3.size
  have HS3 := Lib.hid hs3
  have hrs := hr3.lt
  have HRS := Lib.hid hrs
  have y0 := hc3.cell 0 rfl
  have y1 := hc3.cell 1 rfl
  have y2 := hc3.cell 2 rfl
  have y3 := hc3.cell 3 rfl
  have y4 := hc3.cell 4 rfl
  have y5 := hc3.cell 5 rfl
  have y6 := hc3.cell 6 rfl
  have y7 := hc3.cell 7 rfl
  have y8 := hc3.cell 8 rfl
  have y9 := hc3.cell 9 rfl
  have y10 := hc3.cell 10 rfl
  have hbs : ∀ W, (Instr.buildSlice 77 1 #[(0, .agg #[.int .u32 0, .int .i64 0, .int .u32 0, .int .i64 0, .int .u16 0, .int .u16 65535, .int .u32 1])]).run Tryz.prog W = .ok (.slice (some ⟨W.heap.size, 0, none⟩) 1 1) (W.alloc (.cells #[.int .u32 0, .int .i64 0, .int .u32 0, .int .i64 0, .int .u16 0, .int .u16 65535, .int .u32 1] 160)) := fun _ => by kernel_rfl
  clear ks hb3 hc3 hr3 hk3 hW3 c4 z4 c10 hle hbc hs3 hrs HR2 HB2 HK2 HC2
  go_wp2_with (refine wp_st_blk rfl 80 (.tmp 0) (.tmp 14) rfl HR4.out (enPc pcS (.slice (some ⟨b, 0, none⟩) 2 2) (.slice (some ⟨W3.heap.size, 0, none⟩) 1 1)) rfl rfl rfl (by kernel_rfl) rfl ?_
               intro W5 hb5 hk5
               have HB5 := Lib.hid hb5
               have HK5 := Lib.hid hk5
               clear hb5 hk5)
  have h1 := HLE.out
  have h2 := HRL.out
  have h3 := HS3.out
  have h4 := HRS.out
  exact ret_blk (by exact rfl) HB5.out _ Tryz.underlying80 rfl (by kernel_rfl) (by exact rfl) ⟨b, W3.heap.size, rfl, HB4.out.kp HK5.out (by omega), HN3.out.kp HK5.out (by omega), by omega, by omega, HK4.out.then HK5.out (fun i h e => by omega)⟩
end Go.Proofs.YtfckgddodjmbdaaGreatDoor
