/- Layer 24: the walk of ConfOrder. -/
import Derived.Test.YtkkgpaabbgdfmaaDoorCfW
namespace Go.Proofs.YtkkgpaabbgdfmaaDoor
set_option linter.unusedVariables false
set_option linter.unusedSimpArgs false
open Go Go.RowKit Go.Shelf

theorem lines_facts (c : CfR) (hc : c.ok) (h0 : chk c = 0) : (linesC c).length = c.flows.length + 11 ∧ ∀ p ∈ linesC c, p.length ≤ 200 := by
  have h := chk_ok h0
  have hl := linesC_eq c h
  refine ⟨by rw [hl]; simp [itemsC]; omega, fun p hp => ?_⟩
  rw [hl] at hp
  rcases List.mem_append.1 hp with hp | hp
  · obtain ⟨ws, hws, rfl⟩ := List.mem_map.1 hp
    rcases List.mem_append.1 hws with hws | hws
    · obtain ⟨i, hi, rfl⟩ := List.mem_map.1 hws
      have h1 := lnT_len c hc h i (List.mem_range.1 hi)
      have h2 : lnT c i = joinL (hdW c i) ++ [10] := by simp [lnT, hdW, joinL]
      rw [h2, List.length_append] at h1; omega
    · obtain ⟨f, hf, rfl⟩ := List.mem_map.1 hws
      have h1 := flT_len f (hc.flows f hf)
      have h2 : flT f = joinL (flW f) ++ [10] := rfl
      rw [h2, List.length_append] at h1; omega
  · simp at hp; subst hp; simp
/-- What the first loop has. -/
structure OrA (L : List (List UInt8)) (rem : List UInt8) (k : Nat) (w wr : World) (j : Nat) (y : ByteArray) : Prop where
  is : bl y = [32, 35] ++ rem ++ [10] ++ ((L.drop k).take (j - k)).flatMap padT
  kp : Kp none' w wr
/-- What the second loop has. -/
structure OrB (L : List (List UInt8)) (rem : List UInt8) (k : Nat) (w wr : World) (j : Nat) (y : ByteArray) : Prop where
  is : bl y = [32, 35] ++ rem ++ [10] ++ (L.drop k).flatMap padT ++ (L.take j).flatMap (remT rem)
  kp : Kp none' w wr
theorem orA_next {L : List (List UInt8)} {rem : List UInt8} {k : Nat} {w wr : World} {j : Nat} {y y' : ByteArray} (h : OrA L rem k w wr j y) (hk : k ≤ j) (hj : j < L.length) (he : bl y' = bl y ++ padT L[j]) : OrA L rem k w wr (j + 1) y' := by
  refine ⟨?_, h.kp⟩
  have hlen : j - k < (L.drop k).length := by rw [List.length_drop]; omega
  have e : j + 1 - k = (j - k) + 1 := by omega
  have e2 : (L.drop k)[j - k] = L[j] := by rw [List.getElem_drop]; congr 1; omega
  rw [he, h.is, e, List.take_succ_eq_append_getElem hlen, List.flatMap_append, e2]; simp
theorem orA_done {L : List (List UInt8)} {rem : List UInt8} {k : Nat} {w wr : World} {y : ByteArray} (h : OrA L rem k w wr L.length y) : OrB L rem k w wr 0 y := by
  refine ⟨?_, h.kp⟩
  rw [h.is, List.take_of_length_le (by rw [List.length_drop]; omega)]; simp
theorem orB_next {L : List (List UInt8)} {rem : List UInt8} {k : Nat} {w wr : World} {j : Nat} {y y' : ByteArray} (h : OrB L rem k w wr j y) (hj : j < L.length) (he : bl y' = bl y ++ remT rem L[j]) : OrB L rem k w wr (j + 1) y' := by
  refine ⟨?_, h.kp⟩
  rw [he, h.is, List.take_succ_eq_append_getElem hj, List.flatMap_append]; simp
set_option maxRecDepth 100000 in
set_option maxHeartbeats 8000000 in
theorem orderLaw (c : CfR) (hc : c.ok) (v : Value) (tn : Nat) (htn : tn < 256) (rem : ByteArray) (w : World) (hx : MX w) (h : Sl w v c.flows.length 5 (c.flows.flatMap enFl)) : Calls Tryd.prog 6 #[.agg (enC c v).toArray, .int .u8 tn, .string rem] w fun e w' => e = .returned (.bool true) ∧ Kp none' w w' := by
  obtain ⟨ao, cap, rfl⟩ : ∃ ao cap, v = .slice ao c.flows.length cap := by obtain ⟨ao, cap, rfl, _⟩ := h.is; exact ⟨_, _, rfl⟩
  have HX := Lib.hid hx
  have HL := Lib.hid (fun W hW => lives W hW)
  have HSL := Lib.hid h
  have hk0 := (Kp.refl none' w).alloc (.cells #[.int .i64 c.rank, .int .i64 c.back, .int .i64 c.levels, .int .i64 c.queues, .int .i64 c.packets, .int .u64 c.bytes, .int .i64 c.share, .int .u64 c.mtu, .int .u64 c.rate, .int .u64 c.burst, .slice ao c.flows.length cap] 25)
  have hb0 : Blk (w.alloc (.cells #[.int .i64 c.rank, .int .i64 c.back, .int .i64 c.levels, .int .i64 c.queues, .int .i64 c.packets, .int .u64 c.bytes, .int .i64 c.share, .int .u64 c.mtu, .int .u64 c.rate, .int .u64 c.burst, .slice ao c.flows.length cap] 25)) w.heap.size (enC c (.slice ao c.flows.length cap)) 25 := Blk.new w (enC c (.slice ao c.flows.length cap)) 25
  have HB0 := Lib.hid hb0; have HK0 := Lib.hid hk0
  clear hx h hb0 hk0
  by_cases h100 : 100 < c.flows.length
  · have hi : (100 : Int) < c.flows.length := by omega
    unfold enC
    go_enter Tryd.func6, Tryd.ntmps6
    go_wp2_with fail
    refine (HL.out _ (HX.out.kp HK0.out)).mono ?_
    rintro e w1 ⟨rfl, k1⟩
    have HK := Lib.hid (HK0.out.trans k1)
    clear k1
    go_wp2
    go_ret
    exact ⟨rfl, HK.out⟩
  · have hi : ¬ (100 : Int) < c.flows.length := by omega
    by_cases h200 : 200 < rem.size
    · have hi2 : (200 : Int) < rem.size := by omega
      unfold enC
      go_enter Tryd.func6, Tryd.ntmps6
      go_wp2_with fail
      refine (HL.out _ (HX.out.kp HK0.out)).mono ?_
      rintro e w1 ⟨rfl, k1⟩
      have HK := Lib.hid (HK0.out.trans k1)
      clear k1
      go_wp2
      go_ret
      exact ⟨rfl, HK.out⟩
    · have hi2 : ¬ (200 : Int) < rem.size := by omega
      obtain ⟨x, hxx⟩ : ∃ x, tx (putT c) = x := ⟨_, rfl⟩
      obtain ⟨E, hE⟩ : ∃ E, chk c = E := ⟨_, rfl⟩
      have HE := Lib.hid hE; have HXX := Lib.hid hxx; have HCO := Lib.hid hc
      have HP := Lib.hid (fun W hs => gPutQ c hc ao cap W hs x hxx E hE)
      have HS := Lib.hid (fun ao ao' cap cap' W hv hu => rSameQ c ao ao' cap cap' W hv hu)
      have HB := Lib.hid (fun W (k : Kp none' (w.alloc (.cells #[.int .i64 c.rank, .int .i64 c.back, .int .i64 c.levels, .int .i64 c.queues, .int .i64 c.packets, .int .u64 c.bytes, .int .i64 c.share, .int .u64 c.mtu, .int .u64 c.rate, .int .u64 c.burst, .slice ao c.flows.length cap] 25)) W) => HB0.out.kp k (fun x => x))
      have hb := HB0.out
      have a0 := hb.cell 0 rfl; have a1 := hb.cell 1 rfl; have a2 := hb.cell 2 rfl; have a3 := hb.cell 3 rfl; have a4 := hb.cell 4 rfl; have a5 := hb.cell 5 rfl; have a6 := hb.cell 6 rfl; have a7 := hb.cell 7 rfl; have a8 := hb.cell 8 rfl; have a9 := hb.cell 9 rfl; have a10 := hb.cell 10 rfl
      clear hb hxx hE
      unfold enC
      go_enter Tryd.func6, Tryd.ntmps6
      go_wp2_with fail
      obtain ⟨w0, hw0⟩ : ∃ W, w.alloc (.cells #[.int .i64 c.rank, .int .i64 c.back, .int .i64 c.levels, .int .i64 c.queues, .int .i64 c.packets, .int .u64 c.bytes, .int .i64 c.share, .int .u64 c.mtu, .int .u64 c.rate, .int .u64 c.burst, .slice ao c.flows.length cap] 25) = W := ⟨_, rfl⟩
      rw [hw0] at HK0 HB a0 a1 a2 a3 a4 a5 a6 a7 a8 a9 a10 ⊢
      obtain ⟨cb, hcb⟩ : ∃ x, w.heap.size = x := ⟨_, rfl⟩
      rw [hcb] at HB a0 a1 a2 a3 a4 a5 a6 a7 a8 a9 a10 ⊢
      clear hw0 hcb HB0
      go_loopw [30] (fun i0 wr => ∃ j : Nat, i0 = .int .i64 j ∧ j ≤ rem.size ∧ Hid ((10 : UInt8) ∉ (bl rem).take j) ∧ Hid (wr = w0)) (fun i0 _ => rem.size - (intOf i0).toNat)
      case atStart => exact ⟨0, rfl, by omega, by show _ ∉ _; simp, rfl⟩
      case round =>
        obtain ⟨j, rfl, hj, hno, hwr⟩ := hrel
        have hw2 := hwr.out
        subst hw2
        by_cases hlt : j < rem.size
        · have hji : (j : Int) < rem.size := by omega
          by_cases h10 : rem[j] = 10
          · have hcs : ((rem[j].toNat : Int) == 10) = true := by rw [h10]; rfl
            clear h10 hno
            go_wp2_with fail
            refine (HL.out _ (HX.out.kp HK0.out)).mono ?_
            rintro e w1 ⟨rfl, k1⟩
            have HK := Lib.hid (HK0.out.trans k1)
            clear k1
            go_wp2
            go_ret
            exact ⟨rfl, HK.out⟩
          · have hcs : ((rem[j].toNat : Int) == 10) = false := by
              rw [beq_eq_false_iff_ne]; intro e
              have : rem[j].toNat = 10 := by omega
              exact h10 (UInt8.toNat_inj.1 this)
            have HNO : Hid ((10 : UInt8) ∉ (bl rem).take (j + 1)) := by
              show _ ∉ _
              rw [take_bl rem j hlt]
              simp only [List.mem_append, List.mem_singleton, not_or]
              exact ⟨hno.out, fun e => h10 e.symm⟩
            clear h10 hno
            go_wp2
            go_roundw
            case rel => exact ⟨j + 1, by go_num, by omega, HNO.out, True.intro⟩
            case measure => simp [intOf]; omega
        · have hji : ¬ (j : Int) < rem.size := by omega
          have hfr : (10 : UInt8) ∉ bl rem := by
            have := hno.out
            rwa [List.take_of_length_le (by rw [bl_len]; omega)] at this
          have HFR := Lib.hid hfr
          clear hfr hno
          go_wp2_with fail
          refine (HP.out _ (HSL.out.old HK0.out)).mono ?_
          rintro e w1 ⟨rfl, k1⟩
          have HK1 := Lib.hid k1
          clear k1 a0 a1 a2 a3 a4 a5 a6 a7 a8 a9 a10
          by_cases h0 : E = 0
          · subst h0
            have hlf := lines_facts c HCO.out HE.out
            have hpl : x.size ≤ 20000 := by rw [← HXX.out, tx_size]; exact putT_len c HCO.out
            have hbx : parts 10 (bl x) = linesC c := by
              rw [← HXX.out, bl_tx]; unfold putT linesC
              rw [if_pos HE.out]
            have HLN := Lib.hid (fun W => rLines x W (by omega))
            rw [hbx] at HLN
            have HRT := Lib.hid (fun k hk => read_turn c HCO.out HE.out (bl rem) HFR.out k hk)
            obtain ⟨L, hL⟩ : ∃ L, linesC c = L := ⟨_, rfl⟩
            rw [hL] at HLN HRT hlf
            obtain ⟨k, hkk⟩ : ∃ k, tn % 11 = k := ⟨_, rfl⟩
            have hk10 : k ≤ 10 := by omega
            have hrem : (tn : Int).tmod 11 = k := by rw [Int.tmod_eq_emod_of_nonneg (by omega)]; omega
            have hrem2 : (tn : Int) % 11 = k := by omega
            have hwr8 : IntKind.u8.wrap (k : Int) = k := by rw [IntKind.wrap_u8]; omega
            obtain ⟨n, hn⟩ : ∃ n, L.length = n := ⟨_, rfl⟩
            have hn2 : n = c.flows.length + 11 := by rw [← hn]; exact hlf.1
            have hnm : n ≤ 111 := by omega
            have HLE := Lib.hid hlf.2
            have HN := Lib.hid hn
            have h11 : ¬ (n : Int) < 11 := by omega
            obtain ⟨y1, q1, e1, z1⟩ := cat_ex ⟨#[32, 35]⟩ rem 2 200 (by decide) (by omega) (by omega)
            obtain ⟨y2, q2, e2, z2⟩ := cat_ex y1 ⟨#[10]⟩ 202 1 z1 (by decide) (by omega)
            have HY : Hid (bl y2 = [32, 35] ++ bl rem ++ [10]) := by show _ = _; rw [e2, e1]; rfl
            clear hlf hbx hL hkk e1 e2 hn2
            go_wp2_with fail
            refine (HLN.out _).mono ?_
            rintro e w2 ⟨vl, rfl, hown, k2⟩
            rw [HN.out] at hown
            obtain ⟨gl, lc, rfl, _, hnl, _⟩ := own_full hown (by omega)
            have HOW := Lib.hid hown
            have HK2 := Lib.hid (HK1.out.trans k2)
            have HKW2 := Lib.hid (HK0.out.trans HK2.out)
            clear hown k2 HLN
            go_wp2_with fail
            go_loopw [12, 13] (fun s0 i0 wr => ∃ (j : Nat) (y : ByteArray), i0 = .int .i64 j ∧ k ≤ j ∧ j ≤ n ∧ s0 = .string y ∧ y.size ≤ 203 + (j - k) * 205 ∧ Hid (OrA L (bl rem) k w2 wr j y)) (fun _ i0 _ => n - (intOf i0).toNat)
            case atStart => exact ⟨k, y2, rfl, by omega, by omega, rfl, by omega, ⟨by rw [HY.out]; simp, Kp.refl _ _⟩⟩
            case round =>
              obtain ⟨w3, hw3⟩ : ∃ w3 : World, w3 = wr := ⟨_, rfl⟩
              subst hw3
              obtain ⟨j, y, rfl, hkj, hjn, rfl, hys, hr⟩ := hrel
              by_cases hjl : j < n
              · have hji : (j : Int) < n := by omega
                have hjL : j < L.length := by rw [HN.out]; exact hjl
                obtain ⟨l, hl⟩ : ∃ l, L[j] = l := ⟨_, rfl⟩
                have hls : (tx l).size ≤ 200 := by rw [tx_size, ← hl]; exact HLE.out _ (List.getElem_mem hjL)
                have hlc : w3.cell? ⟨gl, j, none⟩ = some (.string (tx l)) := hr.out.kp.cell (own_cell HOW.out j (by simp [wtx, strs, hjL, hl])) (fun x => x)
                obtain ⟨a1, p1, f1, g1⟩ := cat_ex ⟨#[9]⟩ (tx l) 1 200 (by decide) hls (by omega)
                obtain ⟨a2, p2, f2, g2⟩ := cat_ex a1 ⟨#[32, 32, 10, 10]⟩ 201 4 g1 (by decide) (by omega)
                have hjk : (j - k) * 205 ≤ 22755 := by have : j - k ≤ 111 := by omega
                                                       omega
                obtain ⟨a3, p3, f3, g3⟩ := cat_ex y a2 (203 + (j - k) * 205) 205 hys g2 (by omega)
                have HNX : Hid (OrA L (bl rem) k w2 w3 (j + 1) a3) := orA_next hr.out hkj hjL (by rw [f3, f2, f1, bl_tx, hl]; rfl)
                have hsz : a3.size ≤ 203 + (j + 1 - k) * 205 := by
                  have e : j + 1 - k = (j - k) + 1 := by omega
                  rw [e, Nat.add_mul]; omega
                clear f1 f2 f3 hl
                go_wp2_with fail
                go_roundw
                case rel => exact ⟨j + 1, a3, by go_num, by omega, by omega, rfl, hsz, HNX.out⟩
                case measure => simp [intOf]; omega
              · have hje : j = n := by omega
                subst hje
                have HB2 : Hid (OrB L (bl rem) k w2 w3 0 y) := by have h2 := hr.out; rw [← HN.out] at h2; exact orA_done h2
                have hys2 : y.size ≤ 22958 := by have : j - k ≤ 111 := by omega
                                                 omega
                clear hr hys
                go_wp2_with fail
                go_loopw [12, 74] (fun s0 i0 wr => ∃ (i : Nat) (y : ByteArray), i0 = .int .i64 i ∧ i ≤ k ∧ s0 = .string y ∧ y.size ≤ 22958 + i * 403 ∧ Hid (OrB L (bl rem) k w2 wr i y)) (fun _ i0 _ => k - (intOf i0).toNat)
                case atStart => exact ⟨0, y, rfl, by omega, rfl, by omega, HB2.out⟩
                case round =>
                  obtain ⟨w4, hw4⟩ : ∃ w4 : World, w4 = wr := ⟨_, rfl⟩
                  subst hw4
                  obtain ⟨i, u, rfl, hik, rfl, hus, hr⟩ := hrel
                  by_cases hil : i < k
                  · have hii : (i : Int) < k := by omega
                    have hiL : i < L.length := by rw [HN.out]; omega
                    obtain ⟨l, hl⟩ : ∃ l, L[i] = l := ⟨_, rfl⟩
                    have hls : (tx l).size ≤ 200 := by rw [tx_size, ← hl]; exact HLE.out _ (List.getElem_mem hiL)
                    have hlc : w4.cell? ⟨gl, i, none⟩ = some (.string (tx l)) := hr.out.kp.cell (own_cell HOW.out i (by simp [wtx, strs, hiL, hl])) (fun x => x)
                    have hin : (i : Int) < j := by omega
                    obtain ⟨a1, p1, f1, g1⟩ := cat_ex (tx l) ⟨#[10, 35]⟩ 200 2 hls (by decide) (by omega)
                    obtain ⟨a2, p2, f2, g2⟩ := cat_ex a1 rem 202 200 g1 (by omega) (by omega)
                    obtain ⟨a3, p3, f3, g3⟩ := cat_ex a2 ⟨#[10]⟩ 402 1 g2 (by decide) (by omega)
                    obtain ⟨a4, p4, f4, g4⟩ := cat_ex u a3 (22958 + i * 403) 403 hus g3 (by omega)
                    have HNX : Hid (OrB L (bl rem) k w2 w4 (i + 1) a4) := orB_next hr.out hiL (by rw [f4, f3, f2, f1, bl_tx, hl]; rfl)
                    have hsz : a4.size ≤ 22958 + (i + 1) * 403 := by rw [Nat.add_mul]; omega
                    clear f1 f2 f3 f4 hl
                    go_wp2_with fail
                    go_roundw
                    case rel => exact ⟨i + 1, a4, by go_num, by omega, rfl, hsz, HNX.out⟩
                    case measure => simp [intOf]; omega
                  · have hie : i = k := by omega
                    subst hie
                    have hrd : readC (bl u) = (c, 0, 0) := by
                      have h2 := HRT.out i hk10
                      have h3 : bl u = turnT (bl rem) i L := hr.out.is
                      rw [h3]; exact h2
                    have HK4 := Lib.hid (HK2.out.trans hr.out.kp)
                    have HKW4 := Lib.hid (HK0.out.trans HK4.out)
                    have HRD := Lib.hid (fun W hW => gReadQ u (by omega) c 0 0 hrd W hW)
                    clear hrd hr
                    go_wp2_with fail
                    refine (HRD.out _ (HX.out.kp HKW4.out)).mono ?_
                    rintro e w5 ⟨ao', cap', rfl, hs5, k5⟩
                    have hk6 := (Kp.refl none' w5).alloc (.cells #[.int .i64 c.rank, .int .i64 c.back, .int .i64 c.levels, .int .i64 c.queues, .int .i64 c.packets, .int .u64 c.bytes, .int .i64 c.share, .int .u64 c.mtu, .int .u64 c.rate, .int .u64 c.burst, .slice ao' c.flows.length cap'] 25)
                    have hb6 : Blk (w5.alloc (.cells #[.int .i64 c.rank, .int .i64 c.back, .int .i64 c.levels, .int .i64 c.queues, .int .i64 c.packets, .int .u64 c.bytes, .int .i64 c.share, .int .u64 c.mtu, .int .u64 c.rate, .int .u64 c.burst, .slice ao' c.flows.length cap'] 25)) w5.heap.size (enC c (.slice ao' c.flows.length cap')) 25 := Blk.new w5 (enC c (.slice ao' c.flows.length cap')) 25
                    have HK6 := Lib.hid ((HK4.out.trans k5).trans hk6)
                    have HS6 := Lib.hid (hs5.old hk6)
                    have HSL6 := Lib.hid (HSL.out.old (HK0.out.trans HK6.out))
                    have hb := HB.out _ HK6.out
                    have b0 := hb.cell 0 rfl; have b1 := hb.cell 1 rfl; have b2 := hb.cell 2 rfl; have b3 := hb.cell 3 rfl; have b4 := hb.cell 4 rfl; have b5 := hb.cell 5 rfl; have b6 := hb.cell 6 rfl; have b7 := hb.cell 7 rfl; have b8 := hb.cell 8 rfl; have b9 := hb.cell 9 rfl; have b10 := hb.cell 10 rfl
                    have g0 := hb6.cell 0 rfl; have g1 := hb6.cell 1 rfl; have g2 := hb6.cell 2 rfl; have g3 := hb6.cell 3 rfl; have g4 := hb6.cell 4 rfl; have g5 := hb6.cell 5 rfl; have g6 := hb6.cell 6 rfl; have g7 := hb6.cell 7 rfl; have g8 := hb6.cell 8 rfl; have g9 := hb6.cell 9 rfl; have g10 := hb6.cell 10 rfl
                    clear hb hb6 hk6 hs5 k5
                    go_wp2_with fail
                    refine (HS.out _ _ _ _ _ HSL6.out HS6.out).mono ?_
                    rintro e w7 ⟨rfl, k7⟩
                    have HK7 := Lib.hid ((HK0.out.trans HK6.out).trans k7)
                    clear k7
                    go_wp2_with fail
                    refine (HL.out _ (HX.out.kp HK7.out)).mono ?_
                    rintro e w8 ⟨rfl, k8⟩
                    have HK8 := Lib.hid (HK7.out.trans k8)
                    clear k8
                    go_wp2
                    go_ret
                    exact ⟨rfl, HK8.out⟩
          · have hb : (E != 0) = true := by simpa using h0
            clear h0
            go_wp2_with fail
            refine (HL.out _ (HX.out.kp (HK0.out.trans HK1.out))).mono ?_
            rintro e w2 ⟨rfl, k2⟩
            have HK := Lib.hid ((HK0.out.trans HK1.out).trans k2)
            clear k2
            go_wp2
            go_ret
            exact ⟨rfl, HK.out⟩
end Go.Proofs.YtkkgpaabbgdfmaaDoor
