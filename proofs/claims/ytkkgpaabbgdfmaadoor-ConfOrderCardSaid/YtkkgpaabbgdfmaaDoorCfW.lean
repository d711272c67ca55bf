/- Layer 24: the walks of ConfReads, ConfPuts, ConfBlind. -/
import Derived.Test.YtkkgpaabbgdfmaaDoorCfV
namespace Go.Proofs.YtkkgpaabbgdfmaaDoor
set_option linter.unusedVariables false
set_option linter.unusedSimpArgs false
open Go Go.RowKit Go.Shelf

theorem gReadQ (s : ByteArray) (hs : s.size ≤ 90000) (c : CfR) (n : Nat) (x : Int) (hr : readC (bl s) = (c, n, x)) (w : World) (hx : MX w) : Calls Tryd.prog 11 #[.string s] w fun e w' => ∃ ao cap, e = .returned (.tuple #[.agg #[.int .i64 c.rank, .int .i64 c.back, .int .i64 c.levels, .int .i64 c.queues, .int .i64 c.packets, .int .u64 c.bytes, .int .i64 c.share, .int .u64 c.mtu, .int .u64 c.rate, .int .u64 c.burst, .slice ao c.flows.length cap], .int .i64 n, .int .i64 x]) ∧ Sl w' (.slice ao c.flows.length cap) c.flows.length 5 (c.flows.flatMap enFl) ∧ Kp none' w w' :=
  (gReadC s hs w hx).mono fun e w' h => by
    obtain ⟨v, rfl, hsl, _, k⟩ := h
    rw [hr] at hsl ⊢
    obtain ⟨ao, cap, rfl, _⟩ := hsl.is
    exact ⟨ao, cap, rfl, hsl, k⟩
theorem rReadQ (s : ByteArray) (hs : s.size ≤ 90000) (c : CfR) (n : Nat) (x : Int) (hr : readC (bl s) = (c, n, x)) (w : World) : Calls Tryd.prog 13 #[.string s] w fun e w' => ∃ ao cap, e = .returned (.tuple #[.agg #[.int .i64 c.rank, .int .i64 c.back, .int .i64 c.levels, .int .i64 c.queues, .int .i64 c.packets, .int .u64 c.bytes, .int .i64 c.share, .int .u64 c.mtu, .int .u64 c.rate, .int .u64 c.burst, .slice ao c.flows.length cap], .int .i64 n, .int .i64 x]) ∧ Sl w' (.slice ao c.flows.length cap) c.flows.length 5 (c.flows.flatMap enFl) ∧ Kp none' w w' :=
  (rReadC s hs w).mono fun e w' h => by
    obtain ⟨v, rfl, hsl, _, k⟩ := h
    rw [hr] at hsl ⊢
    obtain ⟨ao, cap, rfl, _⟩ := hsl.is
    exact ⟨ao, cap, rfl, hsl, k⟩
theorem rSameQ (c : CfR) (ao ao' : Option Addr) (cap cap' : Nat) (w : World) (hv : Sl w (.slice ao c.flows.length cap) c.flows.length 5 (c.flows.flatMap enFl)) (hu : Sl w (.slice ao' c.flows.length cap') c.flows.length 5 (c.flows.flatMap enFl)) :
    Calls Tryd.prog 12 #[.agg #[.int .i64 c.rank, .int .i64 c.back, .int .i64 c.levels, .int .i64 c.queues, .int .i64 c.packets, .int .u64 c.bytes, .int .i64 c.share, .int .u64 c.mtu, .int .u64 c.rate, .int .u64 c.burst, .slice ao c.flows.length cap], .agg #[.int .i64 c.rank, .int .i64 c.back, .int .i64 c.levels, .int .i64 c.queues, .int .i64 c.packets, .int .u64 c.bytes, .int .i64 c.share, .int .u64 c.mtu, .int .u64 c.rate, .int .u64 c.burst, .slice ao' c.flows.length cap']] w fun e w' => e = .returned (.bool true) ∧ Kp none' w w' := rSame c _ _ w hv hu
set_option maxRecDepth 100000 in
set_option maxHeartbeats 4000000 in
theorem readsLaw (s : ByteArray) (w : World) (hx : MX w) : Calls Tryd.prog 4 #[.string s] w fun e w' => e = .returned (.bool true) ∧ Kp none' w w' := by
  have HX := Lib.hid hx
  have HL := Lib.hid (fun W hW => lives W hW)
  clear hx
  by_cases h5 : 5000 < s.size
  · have h5i : (5000 : Int) < s.size := by omega
    go_enter Tryd.func4, Tryd.ntmps4
    go_wp2_with fail
    refine (HL.out _ HX.out).mono ?_
    rintro e w1 ⟨rfl, k1⟩
    have HK := Lib.hid k1
    clear k1
    go_wp2
    go_ret
    exact ⟨rfl, HK.out⟩
  · have h5i : ¬ (5000 : Int) < s.size := by omega
    obtain ⟨⟨c, n, x⟩, hr⟩ : ∃ r, readC (bl s) = r := ⟨_, rfl⟩
    have HG := Lib.hid (gReadQ s (by omega) c n x hr w HX.out)
    have HR := Lib.hid (fun W => rReadQ s (by omega) c n x hr W)
    have HS := Lib.hid (fun ao ao' cap cap' W hv hu => rSameQ c ao ao' cap cap' W hv hu)
    clear hr
    go_enter Tryd.func4, Tryd.ntmps4
    go_wp2_with fail
    refine (HG.out).mono ?_
    rintro e w1 ⟨ao, cap, rfl, hs1, k1⟩
    have HS1 := Lib.hid hs1; have HK1 := Lib.hid k1
    clear hs1 k1 HG
    have hb1 : Blk (w1.alloc (.cells #[.int .i64 c.rank, .int .i64 c.back, .int .i64 c.levels, .int .i64 c.queues, .int .i64 c.packets, .int .u64 c.bytes, .int .i64 c.share, .int .u64 c.mtu, .int .u64 c.rate, .int .u64 c.burst, .slice ao c.flows.length cap] 25)) w1.heap.size (enC c (.slice ao c.flows.length cap)) 25 := Blk.new w1 (enC c (.slice ao c.flows.length cap)) 25
    have HB1 := Lib.hid hb1
    clear hb1
    go_wp2_with fail
    refine (HR.out _).mono ?_
    rintro e w2 ⟨ao', cap', rfl, hs2, k2⟩
    have HK2 := Lib.hid ((HK1.out.alloc _).trans k2)
    have HB2 := Lib.hid (HB1.out.kp k2 (fun x => x))
    have HS12 := Lib.hid ((HS1.out.old ((Kp.refl none' w1).alloc (.cells #[.int .i64 c.rank, .int .i64 c.back, .int .i64 c.levels, .int .i64 c.queues, .int .i64 c.packets, .int .u64 c.bytes, .int .i64 c.share, .int .u64 c.mtu, .int .u64 c.rate, .int .u64 c.burst, .slice ao c.flows.length cap] 25))).old k2)
    have HS2 := Lib.hid hs2
    clear hs2 k2 HR HB1 HS1
    have hk3 := (Kp.refl none' w2).alloc (.cells #[.int .i64 c.rank, .int .i64 c.back, .int .i64 c.levels, .int .i64 c.queues, .int .i64 c.packets, .int .u64 c.bytes, .int .i64 c.share, .int .u64 c.mtu, .int .u64 c.rate, .int .u64 c.burst, .slice ao' c.flows.length cap'] 25)
    have hb3 : Blk (w2.alloc (.cells #[.int .i64 c.rank, .int .i64 c.back, .int .i64 c.levels, .int .i64 c.queues, .int .i64 c.packets, .int .u64 c.bytes, .int .i64 c.share, .int .u64 c.mtu, .int .u64 c.rate, .int .u64 c.burst, .slice ao' c.flows.length cap'] 25)) w2.heap.size (enC c (.slice ao' c.flows.length cap')) 25 := Blk.new w2 (enC c (.slice ao' c.flows.length cap')) 25
    have hb4 := HB2.out.kp hk3 (fun x => x)
    have HS13 := Lib.hid (HS12.out.old hk3)
    have HS23 := Lib.hid (HS2.out.old hk3)
    have HK3 := Lib.hid (HK2.out.trans hk3)
    have p0 := hb3.cell 0 rfl; have p1 := hb3.cell 1 rfl; have p2 := hb3.cell 2 rfl; have p3 := hb3.cell 3 rfl; have p4 := hb3.cell 4 rfl; have p5 := hb3.cell 5 rfl; have p6 := hb3.cell 6 rfl; have p7 := hb3.cell 7 rfl; have p8 := hb3.cell 8 rfl; have p9 := hb3.cell 9 rfl; have p10 := hb3.cell 10 rfl
    have q0 := hb4.cell 0 rfl; have q1 := hb4.cell 1 rfl; have q2 := hb4.cell 2 rfl; have q3 := hb4.cell 3 rfl; have q4 := hb4.cell 4 rfl; have q5 := hb4.cell 5 rfl; have q6 := hb4.cell 6 rfl; have q7 := hb4.cell 7 rfl; have q8 := hb4.cell 8 rfl; have q9 := hb4.cell 9 rfl; have q10 := hb4.cell 10 rfl
    clear hb3 hb4 hk3 HB2 HS12 HS2
    go_wp2_with fail
    refine (HS.out _ _ _ _ _ HS13.out HS23.out).mono ?_
    rintro e w4 ⟨rfl, k4⟩
    have HK4 := Lib.hid (HK3.out.trans k4)
    clear k4 HS
    go_wp2_with fail
    refine (HL.out _ (HX.out.kp HK4.out)).mono ?_
    rintro e w5 ⟨rfl, k5⟩
    have HK5 := Lib.hid (HK4.out.trans k5)
    clear k5
    go_wp2
    go_ret
    exact ⟨rfl, HK5.out⟩

theorem putT_len (c : CfR) (hc : c.ok) : (putT c).length ≤ 20000 := by
  unfold putT
  split
  · rename_i h0
    have hk := chk_ok h0
    have h1 := preT_len c hc hk 10 (by omega)
    have h2 := fls_len c.flows hc.flows
    have h3 := hk.flows
    rw [textC_eq, ← preT_hd, List.length_append]
    omega
  · simp
theorem gPutQ (c : CfR) (hc : c.ok) (ao : Option Addr) (cap : Nat) (w : World) (h : Sl w (.slice ao c.flows.length cap) c.flows.length 5 (c.flows.flatMap enFl)) (x : ByteArray) (hx : tx (putT c) = x) (E : Int) (hE : chk c = E) : Calls Tryd.prog 8 #[.agg #[.int .i64 c.rank, .int .i64 c.back, .int .i64 c.levels, .int .i64 c.queues, .int .i64 c.packets, .int .u64 c.bytes, .int .i64 c.share, .int .u64 c.mtu, .int .u64 c.rate, .int .u64 c.burst, .slice ao c.flows.length cap]] w fun e w' => e = .returned (.tuple #[.string x, .int .i64 E]) ∧ Kp none' w w' := by
  have := gPutC c hc _ w h
  rw [hx, hE] at this; exact this
theorem rPutQ (c : CfR) (hc : c.ok) (ao : Option Addr) (cap : Nat) (w : World) (h : Sl w (.slice ao c.flows.length cap) c.flows.length 5 (c.flows.flatMap enFl)) (x : ByteArray) (hx : tx (putT c) = x) (E : Int) (hE : chk c = E) : Calls Tryd.prog 9 #[.agg #[.int .i64 c.rank, .int .i64 c.back, .int .i64 c.levels, .int .i64 c.queues, .int .i64 c.packets, .int .u64 c.bytes, .int .i64 c.share, .int .u64 c.mtu, .int .u64 c.rate, .int .u64 c.burst, .slice ao c.flows.length cap]] w fun e w' => e = .returned (.tuple #[.string x, .int .i64 E]) ∧ Kp none' w w' := by
  have := rPutC c hc _ w h
  rw [hx, hE] at this; exact this
theorem gChkQ (c : CfR) (hc : c.ok) (ao : Option Addr) (cap : Nat) (w : World) (h : Sl w (.slice ao c.flows.length cap) c.flows.length 5 (c.flows.flatMap enFl)) (E : Int) (hE : chk c = E) : Calls Tryd.prog 10 #[.agg #[.int .i64 c.rank, .int .i64 c.back, .int .i64 c.levels, .int .i64 c.queues, .int .i64 c.packets, .int .u64 c.bytes, .int .i64 c.share, .int .u64 c.mtu, .int .u64 c.rate, .int .u64 c.burst, .slice ao c.flows.length cap]] w fun e w' => e = .returned (.int .i64 E) ∧ Kp none' w w' := by
  have := gChk c hc _ w h
  rw [hE] at this; exact this
set_option maxRecDepth 100000 in
set_option maxHeartbeats 4000000 in
theorem putsLaw (c : CfR) (hc : c.ok) (v : Value) (w : World) (hx : MX w) (h : Sl w v c.flows.length 5 (c.flows.flatMap enFl)) : Calls Tryd.prog 3 #[.agg (enC c v).toArray] w fun e w' => e = .returned (.bool true) ∧ Kp none' w w' := by
  obtain ⟨ao, cap, rfl⟩ : ∃ ao cap, v = .slice ao c.flows.length cap := by obtain ⟨ao, cap, rfl, _⟩ := h.is; exact ⟨_, _, rfl⟩
  have HX := Lib.hid hx
  have HL := Lib.hid (fun W hW => lives W hW)
  have HSL := Lib.hid h
  have hk0 := (Kp.refl none' w).alloc (.cells #[.int .i64 c.rank, .int .i64 c.back, .int .i64 c.levels, .int .i64 c.queues, .int .i64 c.packets, .int .u64 c.bytes, .int .i64 c.share, .int .u64 c.mtu, .int .u64 c.rate, .int .u64 c.burst, .slice ao c.flows.length cap] 25)
  have hb0 : Blk (w.alloc (.cells #[.int .i64 c.rank, .int .i64 c.back, .int .i64 c.levels, .int .i64 c.queues, .int .i64 c.packets, .int .u64 c.bytes, .int .i64 c.share, .int .u64 c.mtu, .int .u64 c.rate, .int .u64 c.burst, .slice ao c.flows.length cap] 25)) w.heap.size (enC c (.slice ao c.flows.length cap)) 25 := Blk.new w (enC c (.slice ao c.flows.length cap)) 25
  have HB0 := Lib.hid hb0; have HK0 := Lib.hid hk0
  clear hx h hb0 hk0
  by_cases h100 : 100 < c.flows.length
  · have hi : (100 : Int) < c.flows.length := by omega
    unfold enC
    go_enter Tryd.func3, Tryd.ntmps3
    go_wp2_with fail
    refine (HL.out _ (HX.out.kp HK0.out)).mono ?_
    rintro e w1 ⟨rfl, k1⟩
    have HK := Lib.hid (HK0.out.trans k1)
    clear k1
    go_wp2
    go_ret
    exact ⟨rfl, HK.out⟩
  · have hi : ¬ (100 : Int) < c.flows.length := by omega
    obtain ⟨x, hxx⟩ : ∃ x, tx (putT c) = x := ⟨_, rfl⟩
    obtain ⟨E, hE⟩ : ∃ E, chk c = E := ⟨_, rfl⟩
    have HP := Lib.hid (fun W hs => gPutQ c hc ao cap W hs x hxx E hE)
    have HQ := Lib.hid (fun W hs => rPutQ c hc ao cap W hs x hxx E hE)
    have HC := Lib.hid (fun W hs => gChkQ c hc ao cap W hs E hE)
    have HS := Lib.hid (fun ao ao' cap cap' W hv hu => rSameQ c ao ao' cap cap' W hv hu)
    have hxl : x.size ≤ 90000 := by rw [← hxx, tx_size]; have := putT_len c hc; omega
    have HRD : Hid (E = 0 → ∀ W, MX W → Calls Tryd.prog 11 #[.string x] W fun e w' => ∃ ao cap, e = .returned (.tuple #[.agg #[.int .i64 c.rank, .int .i64 c.back, .int .i64 c.levels, .int .i64 c.queues, .int .i64 c.packets, .int .u64 c.bytes, .int .i64 c.share, .int .u64 c.mtu, .int .u64 c.rate, .int .u64 c.burst, .slice ao c.flows.length cap], .int .i64 0, .int .i64 0]) ∧ Sl w' (.slice ao c.flows.length cap) c.flows.length 5 (c.flows.flatMap enFl) ∧ Kp none' W w') := fun h0 W hW => by
      refine gReadQ x hxl c 0 0 ?_ W hW
      rw [h0] at hE
      rw [← hxx, bl_tx]
      unfold putT
      rw [if_pos hE]
      exact read_put c hc hE
    have HB := Lib.hid (fun W (k : Kp none' (w.alloc (.cells #[.int .i64 c.rank, .int .i64 c.back, .int .i64 c.levels, .int .i64 c.queues, .int .i64 c.packets, .int .u64 c.bytes, .int .i64 c.share, .int .u64 c.mtu, .int .u64 c.rate, .int .u64 c.burst, .slice ao c.flows.length cap] 25)) W) => HB0.out.kp k (fun x => x))
    clear hxx hE h100
    unfold enC
    go_enter Tryd.func3, Tryd.ntmps3
    have hb := HB0.out
    have cb0 := hb.cell 0 rfl; have cb1 := hb.cell 1 rfl; have cb2 := hb.cell 2 rfl; have cb3 := hb.cell 3 rfl; have cb4 := hb.cell 4 rfl; have cb5 := hb.cell 5 rfl; have cb6 := hb.cell 6 rfl; have cb7 := hb.cell 7 rfl; have cb8 := hb.cell 8 rfl; have cb9 := hb.cell 9 rfl; have cb10 := hb.cell 10 rfl
    clear hb
    go_wp2_with fail
    refine (HP.out _ (HSL.out.old HK0.out)).mono ?_
    rintro e w1 ⟨rfl, k1⟩
    have HK1 := Lib.hid k1
    have hb := HB.out _ k1
    have cc0 := hb.cell 0 rfl; have cc1 := hb.cell 1 rfl; have cc2 := hb.cell 2 rfl; have cc3 := hb.cell 3 rfl; have cc4 := hb.cell 4 rfl; have cc5 := hb.cell 5 rfl; have cc6 := hb.cell 6 rfl; have cc7 := hb.cell 7 rfl; have cc8 := hb.cell 8 rfl; have cc9 := hb.cell 9 rfl; have cc10 := hb.cell 10 rfl
    clear hb k1 cb0 cb1 cb2 cb3 cb4 cb5 cb6 cb7 cb8 cb9 cb10
    go_wp2_with fail
    refine (HQ.out _ (HSL.out.old (HK0.out.trans HK1.out))).mono ?_
    rintro e w2 ⟨rfl, k2⟩
    have HK2 := Lib.hid (HK1.out.trans k2)
    have hb := HB.out _ HK2.out
    have cd0 := hb.cell 0 rfl; have cd1 := hb.cell 1 rfl; have cd2 := hb.cell 2 rfl; have cd3 := hb.cell 3 rfl; have cd4 := hb.cell 4 rfl; have cd5 := hb.cell 5 rfl; have cd6 := hb.cell 6 rfl; have cd7 := hb.cell 7 rfl; have cd8 := hb.cell 8 rfl; have cd9 := hb.cell 9 rfl; have cd10 := hb.cell 10 rfl
    clear hb k2 cc0 cc1 cc2 cc3 cc4 cc5 cc6 cc7 cc8 cc9 cc10
    go_wp2_with fail
    refine (HC.out _ (HSL.out.old (HK0.out.trans HK2.out))).mono ?_
    rintro e w3 ⟨rfl, k3⟩
    have HK3 := Lib.hid (HK2.out.trans k3)
    have hb := HB.out _ HK3.out
    have ce0 := hb.cell 0 rfl; have ce1 := hb.cell 1 rfl; have ce2 := hb.cell 2 rfl; have ce3 := hb.cell 3 rfl; have ce4 := hb.cell 4 rfl; have ce5 := hb.cell 5 rfl; have ce6 := hb.cell 6 rfl; have ce7 := hb.cell 7 rfl; have ce8 := hb.cell 8 rfl; have ce9 := hb.cell 9 rfl; have ce10 := hb.cell 10 rfl
    clear hb k3 cd0 cd1 cd2 cd3 cd4 cd5 cd6 cd7 cd8 cd9 cd10
    by_cases h0 : E = 0
    · have HR := Lib.hid (HRD.out h0)
      subst h0
      go_wp2_with fail
      refine (HR.out _ (HX.out.kp (HK0.out.trans HK3.out))).mono ?_
      rintro e w4 ⟨ao', cap', rfl, hs4, k4⟩
      have HK4 := Lib.hid (HK3.out.trans k4)
      have hk5 := (Kp.refl none' w4).alloc (.cells #[.int .i64 c.rank, .int .i64 c.back, .int .i64 c.levels, .int .i64 c.queues, .int .i64 c.packets, .int .u64 c.bytes, .int .i64 c.share, .int .u64 c.mtu, .int .u64 c.rate, .int .u64 c.burst, .slice ao' c.flows.length cap'] 25)
      have hb5 : Blk (w4.alloc (.cells #[.int .i64 c.rank, .int .i64 c.back, .int .i64 c.levels, .int .i64 c.queues, .int .i64 c.packets, .int .u64 c.bytes, .int .i64 c.share, .int .u64 c.mtu, .int .u64 c.rate, .int .u64 c.burst, .slice ao' c.flows.length cap'] 25)) w4.heap.size (enC c (.slice ao' c.flows.length cap')) 25 := Blk.new w4 (enC c (.slice ao' c.flows.length cap')) 25
      have HK5 := Lib.hid (HK4.out.trans hk5)
      have HS5 := Lib.hid (hs4.old hk5)
      have HSL5 := Lib.hid (HSL.out.old (HK0.out.trans HK5.out))
      have hb := HB.out _ HK5.out
      have cf0 := hb.cell 0 rfl; have cf1 := hb.cell 1 rfl; have cf2 := hb.cell 2 rfl; have cf3 := hb.cell 3 rfl; have cf4 := hb.cell 4 rfl; have cf5 := hb.cell 5 rfl; have cf6 := hb.cell 6 rfl; have cf7 := hb.cell 7 rfl; have cf8 := hb.cell 8 rfl; have cf9 := hb.cell 9 rfl; have cf10 := hb.cell 10 rfl
      have cg0 := hb5.cell 0 rfl; have cg1 := hb5.cell 1 rfl; have cg2 := hb5.cell 2 rfl; have cg3 := hb5.cell 3 rfl; have cg4 := hb5.cell 4 rfl; have cg5 := hb5.cell 5 rfl; have cg6 := hb5.cell 6 rfl; have cg7 := hb5.cell 7 rfl; have cg8 := hb5.cell 8 rfl; have cg9 := hb5.cell 9 rfl; have cg10 := hb5.cell 10 rfl
      clear hb hb5 hk5 hs4 k4 ce0 ce1 ce2 ce3 ce4 ce5 ce6 ce7 ce8 ce9 ce10
      go_wp2_with fail
      refine (HS.out _ _ _ _ _ HSL5.out HS5.out).mono ?_
      rintro e w6 ⟨rfl, k6⟩
      have HK6 := Lib.hid ((HK0.out.trans HK5.out).trans k6)
      clear k6
      go_wp2_with fail
      refine (HL.out _ (HX.out.kp HK6.out)).mono ?_
      rintro e w7 ⟨rfl, k7⟩
      have HK7 := Lib.hid (HK6.out.trans k7)
      clear k7
      go_wp2
      go_ret
      exact ⟨rfl, HK7.out⟩
    · have hb : (E != 0) = true := by simpa using h0
      clear h0
      go_wp2_with fail
      refine (HL.out _ (HX.out.kp (HK0.out.trans HK3.out))).mono ?_
      rintro e w7 ⟨rfl, k7⟩
      have HK7 := Lib.hid ((HK0.out.trans HK3.out).trans k7)
      clear k7
      go_wp2
      go_ret
      exact ⟨rfl, HK7.out⟩
end Go.Proofs.YtkkgpaabbgdfmaaDoor
