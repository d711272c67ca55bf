/- Layer 38, the document's: Rows' walk. -/
import Derived.Test.YtkhipbpjknfloaaHistS
namespace Go.Proofs.Ytkhipbpjknfloaa
set_option linter.unusedVariables false
set_option linter.unusedSimpArgs false
open Go.RowKit Go.Maps
theorem take_snoc {α : Type} (l : List α) (i : Nat) (h : i < l.length) : l.take (i + 1) = l.take i ++ [l[i]] := List.take_succ_eq_append_getElem h
theorem nxt_ge (f : Nat) (last : Int) (l : List Ad) (hf : f ≤ 8) (hl : ∀ e ∈ l, e.1 < 18446744073709551616) : -1 ≤ nxtN f last l ∧ nxtN f last l ≤ 20000 := by
  rcases nxt_spec f last l with ⟨h, _⟩ | ⟨c, h, ⟨e, he, _, h2⟩, _, _⟩
  · omega
  · have := bk_bnd hf (hl e he)
    omega
set_option maxRecDepth 100000 in
set_option maxHeartbeats 4000000 in
theorem rRows (f : Nat) (hf : f ≤ 8) (l : List Ad) (hln : l.length ≤ 1000) (hl : ∀ e ∈ l, e.1 < 18446744073709551616 ∧ e.2 < 18446744073709551616) (v : Value) (w : World) (hsl : Sl w v l.length 2 (l.flatMap enAd)) :
    Calls Try.prog 34 #[.int .i64 f, v] w fun e w' => ∃ r, e = .returned r ∧ w'.ownsRow w.heap.size 78 3 r (rowsN f l).length ((rowsN f l).flatMap enRw) ∧ Kp none' w w' := by
  obtain ⟨ao, acap, rfl⟩ : ∃ ao cap, v = .slice ao l.length cap := by obtain ⟨ao, cap, rfl, _⟩ := hsl.is; exact ⟨_, _, rfl⟩
  have HX := Lib.hid hsl
  have HBU := Lib.hid (fun n (hn : n < 18446744073709551616) W => rBucket f n hf hn W)
  have hkl := ks_len f l
  have HL := Lib.hid hl
  clear hsl hl
  go_enter Try.func34, Try.ntmps34
  go_wp2
  go_loopg [5, 6] (ksN f l).length (fun k s5 s6 wr => ∃ (j : Nat) (o : Value), j + k = (ksN f l).length ∧ o = s5 ∧ s6 = .int .i64 (lastN (ksN f l) j) ∧ Hid (wr.ownsRow w.heap.size 78 3 o j (((rowsN f l).take j).flatMap enRw) ∧ Kp none' w wr))
  case atStart => exact ⟨0, _, by omega, rfl, rfl, World.ownsRow_nil _ _ _ _, Kp.refl _ _⟩
  case round =>
    obtain ⟨wo, hwo⟩ : ∃ wo : World, wo = wr := ⟨_, rfl⟩
    subst hwo
    obtain ⟨j, o, hjk, rfl, rfl, hr⟩ := hrel
    have hlast : -1 ≤ lastN (ksN f l) j ∧ lastN (ksN f l) j ≤ 20000 := by
      unfold lastN
      split
      · omega
      · rw [List.getD_eq_getElem?_getD, List.getElem?_eq_getElem (by omega), Option.getD_some]
        have := (ks_bnd hf (fun e he => (HL.out e he).1) (List.getElem_mem (show j - 1 < (ksN f l).length by omega))).2
        omega
    have HNE : Hid (j = (ksN f l).length → nxtN f (lastN (ksN f l) j) l = -1) := fun h => by subst h; exact nxt_end f l
    have HNA : Hid (∀ h : j < (ksN f l).length, nxtN f (lastN (ksN f l) j) l = ((ksN f l)[j] : Nat)) := nxt_at f l j
    generalize lastN (ksN f l) j = la at *
    go_wp2
    go_loop [7, 8] (fun s7 s8 => ∃ (i : Nat) (nx : Int), s8 = .int .i64 i ∧ s7 = .int .i64 nx ∧ i ≤ l.length ∧ Hid (nx = nxtN f la (l.take i))) (fun _ s8 => l.length - (Go.Proofs.intOf s8).toNat)
    case atStart => exact ⟨0, -1, rfl, rfl, by omega, rfl⟩
    case round =>
      obtain ⟨i, nx, rfl, rfl, hi, hn⟩ := hrel
      by_cases hlt : i < l.length
      · have hii : (i : Int) < l.length := by omega
        obtain ⟨⟨N, T⟩, he⟩ : ∃ e, l[i] = e := ⟨_, rfl⟩
        have hmem := HL.out l[i] (List.getElem_mem hlt)
        rw [he] at hmem
        obtain ⟨hN, hT⟩ := hmem
        obtain ⟨b, off, cap', e1, hc⟩ := (HX.out.old hr.out.2).at enAd_len (by decide) i hlt
        injection e1 with e1 _ e3
        subst e1 e3
        rw [he] at hc
        have x0 := hc 0 _ rfl
        have x1 := hc 1 _ rfl
        simp only [Nat.add_zero] at x0
        have hbb := bk_bnd hf hN
        have HB := Lib.hid (HBU.out N hN wo)
        have hg := nxt_ge f la (l.take i) hf (fun e he => (HL.out e (List.mem_of_mem_take he)).1)
        rw [← hn.out] at hg
        have hst := nxt_snoc f la (l.take i) (N, T)
        rw [← hn.out, ← he, ← take_snoc l i hlt] at hst
        rw [he] at hst
        have HST := Lib.hid hst
        clear hc hst he hn
        simp only at HST
        generalize bk f N = B at *
        by_cases t0 : 0 < T
        · have t0i : (0 : Int) < T := by omega
          by_cases t1 : la < (B : Int)
          · by_cases t2 : nx < 0
            · have HF : Hid (((B : Nat) : Int) = nxtN f la (l.take (i + 1))) := by show _ = _; rw [HST.out, if_pos ⟨t0, t1, .inl t2⟩]
              clear HST
              go_wp2_with (go_at_call 21; refine HB.out.mono ?_; rintro e w' ⟨rfl, rfl⟩)
              go_round
              case rel => exact ⟨i + 1, _, by go_num, rfl, by omega, HF.out⟩
              case measure => simp [Go.Proofs.intOf]; omega
            · by_cases t3 : (B : Int) < nx
              · have HF : Hid (((B : Nat) : Int) = nxtN f la (l.take (i + 1))) := by show _ = _; rw [HST.out, if_pos ⟨t0, t1, .inr t3⟩]
                clear HST
                go_wp2_with (go_at_call 21; refine HB.out.mono ?_; rintro e w' ⟨rfl, rfl⟩)
                go_round
                case rel => exact ⟨i + 1, _, by go_num, rfl, by omega, HF.out⟩
                case measure => simp [Go.Proofs.intOf]; omega
              · have HF : Hid (nx = nxtN f la (l.take (i + 1))) := by show _ = _; rw [HST.out, if_neg (fun h => by omega)]
                clear HST
                go_wp2_with (go_at_call 21; refine HB.out.mono ?_; rintro e w' ⟨rfl, rfl⟩)
                go_round
                case rel => exact ⟨i + 1, _, by go_num, rfl, by omega, HF.out⟩
                case measure => simp [Go.Proofs.intOf]; omega
          · have HF : Hid (nx = nxtN f la (l.take (i + 1))) := by show _ = _; rw [HST.out, if_neg (fun h => by omega)]
            clear HST
            go_wp2_with (go_at_call 21; refine HB.out.mono ?_; rintro e w' ⟨rfl, rfl⟩)
            go_round
            case rel => exact ⟨i + 1, _, by go_num, rfl, by omega, HF.out⟩
            case measure => simp [Go.Proofs.intOf]; omega
        · have HF : Hid (nx = nxtN f la (l.take (i + 1))) := by show _ = _; rw [HST.out, if_neg (fun h => by omega)]
          clear HST
          obtain rfl : T = 0 := by omega
          go_wp2_with (go_at_call 21; refine HB.out.mono ?_; rintro e w' ⟨rfl, rfl⟩)
          go_round
          case rel => exact ⟨i + 1, _, by go_num, rfl, by omega, HF.out⟩
          case measure => simp [Go.Proofs.intOf]; omega
      · obtain rfl : i = l.length := by omega
        have hn2 := hn.out
        rw [List.take_length] at hn2
        clear hn
        by_cases hje : j = (ksN f l).length
        · obtain rfl : nx = -1 := by rw [hn2]; exact HNE.out hje
          have HF : Hid (wo.ownsRow w.heap.size 78 3 o (rowsN f l).length ((rowsN f l).flatMap enRw) ∧ Kp none' w wo) := by
            have := hr.out
            rw [hje, List.take_of_length_le (by unfold rowsN; simp)] at this
            rw [show (rowsN f l).length = (ksN f l).length by unfold rowsN; simp]
            exact this
          clear hr hn2 HNE HNA
          go_wp2
          go_ret
          exact ⟨_, rfl, HF.out.1, HF.out.2⟩
        · have hjl : j < (ksN f l).length := by omega
          obtain ⟨b, hb⟩ : ∃ b, (ksN f l)[j] = b := ⟨_, rfl⟩
          obtain rfl : nx = (b : Nat) := by rw [hn2, HNA.out hjl, hb]
          have hbm : b ∈ ksN f l := by rw [← hb]; exact List.getElem_mem hjl
          obtain ⟨hb1, hb2⟩ := ks_bnd hf (fun e he => (HL.out e he).1) hbm
          have hrow : Hid ((rowsN f l).take (j + 1) = (rowsN f l).take j ++ [rowN f l b]) := by
            have hj2 : j < (rowsN f l).length := by unfold rowsN; rw [List.length_map]; exact hjl
            show _ = _
            rw [List.take_succ_eq_append_getElem hj2, rowsN_get f l j hjl hj2, hb]
          have hlas : Hid (((b : Nat) : Int) = lastN (ksN f l) (j + 1)) := by
            show _ = _
            unfold lastN
            rw [if_neg (by omega), Nat.add_sub_cancel, List.getD_eq_getElem?_getD, List.getElem?_eq_getElem hjl, Option.getD_some, hb]
          clear hn2 HNE HNA hb hbm
          go_wp2
          go_loopw [10, 11] (fun s10 s11 wq => ∃ (i : Nat), s11 = .int .i64 i ∧ i ≤ l.length ∧ s10 = .int .u64 (cntN f (l.take i) b : Nat) ∧ Hid (Kp none' wo wq)) (fun _ s11 _ => l.length - (Go.Proofs.intOf s11).toNat)
          case atStart => exact ⟨0, rfl, by omega, rfl, Kp.refl _ _⟩
          case round =>
            obtain ⟨i, rfl, hi, rfl, hq⟩ := hrel
            by_cases hlt : i < l.length
            · have hii : (i : Int) < l.length := by omega
              obtain ⟨⟨N, T⟩, he⟩ : ∃ e, l[i] = e := ⟨_, rfl⟩
              have hmem := HL.out l[i] (List.getElem_mem hlt)
              rw [he] at hmem
              obtain ⟨hN, hT⟩ := hmem
              obtain ⟨g, off, cap', e1, hc⟩ := (HX.out.old (hr.out.2.trans hq.out)).at enAd_len (by decide) i hlt
              injection e1 with e1 _ e3
              subst e1 e3
              rw [he] at hc
              have x0 : wr.cell? ⟨g, off + i * 2 + 0, none⟩ = some (.int .u64 (N : Nat)) := hc 0 _ rfl
              have x1 : wr.cell? ⟨g, off + i * 2 + 1, none⟩ = some (.int .u64 (T : Nat)) := hc 1 _ rfl
              simp only [Nat.add_zero] at x0
              have hbb := bk_bnd hf hN
              have hcl := cnt_lt f (l.take i) b
              have hst := cnt_snoc f (l.take i) (N, T) b
              rw [← he, ← take_snoc l i hlt] at hst
              rw [he] at hst
              have HST := Lib.hid hst
              clear hc hst he
              simp only at HST
              have HB := Lib.hid (HBU.out N hN wr)
              have HA := Lib.hid (rAdd (cntN f (l.take i) b) T hcl hT wr)
              have HQ := Lib.hid hq.out
              clear hq
              generalize cntN f (l.take i) b = C at *
              generalize bk f N = B at *
              by_cases hBb : B = b
              · subst hBb
                have hc2 : cntN f (l.take (i + 1)) B = satN C T := by rw [HST.out, if_pos rfl]
                have hlt2 := satN_lt C T
                have HC := Lib.hid hc2
                clear HST hc2
                go_wp2_with fail
                refine HB.out.mono ?_
                rintro e w' ⟨rfl, rfl⟩
                go_wp2_with fail
                refine HA.out.mono ?_
                rintro e w5 ⟨rfl, k5⟩
                have K5 := Lib.hid (HQ.out.trans k5)
                clear k5
                go_wp2_with fail
                go_roundw
                case rel => exact ⟨i + 1, by go_num, by omega, by rw [HC.out], K5.out⟩
                case measure => simp [Go.Proofs.intOf]; omega
              · have hbi : ((B : Int) == (b : Int)) = false := by rw [beq_eq_false_iff_ne]; omega
                have hc2 : cntN f (l.take (i + 1)) b = C := by rw [HST.out, if_neg hBb]
                have HC := Lib.hid hc2
                clear HST hc2
                go_wp2_with fail
                refine HB.out.mono ?_
                rintro e w' ⟨rfl, rfl⟩
                go_wp2_with fail
                go_roundw
                case rel => exact ⟨i + 1, by go_num, by omega, by rw [HC.out], HQ.out⟩
                case measure => simp [Go.Proofs.intOf]; omega
            · obtain rfl : i = l.length := by omega
              have RG := rRange f (b : Nat) hf wr
              rw [rgRow hb1 hf] at RG
              have HRG := Lib.hid RG
              have HQ := Lib.hid hq.out
              have HO := Lib.hid (own_kp (S := none') hr.out.1 hq.out (fun _ _ h => h))
              have HK := Lib.hid (hr.out.2.trans hq.out)
              have hct : Hid (cntN f (l.take l.length) b = cntN f l b) := by show _ = _; rw [List.take_length]
              have hzz := HK.out.size
              clear RG hq hr
              obtain ⟨ao2, acap2, rfl⟩ := own_shape HO.out
              obtain ⟨C, hC⟩ : ∃ C, cntN f (l.take l.length) b = C := ⟨_, rfl⟩
              rw [hC] at hct ⊢
              go_wp2_with fail
              refine HRG.out.mono ?_
              rintro e w' ⟨rfl, rfl⟩
              go_wp2_with (at_builtin; refine wp_app1 tRr (.tmp 81) (.tmp 86) rfl rfl w.heap.size (HO.out.alloc _) [.int .u64 (lo f b : Nat), .int .u64 (lo f (b + 1) - 1 : Nat), .int .u64 (C : Nat)] rfl rfl rfl (heap_new _ _) rfl (by omega) (by omega) (by simp; omega) ?_)
              intro g2 cap2 w7 hown hgrow
              have HF : Hid (w7.ownsRow w.heap.size 78 3 (.slice (some ⟨g2, 0, none⟩) (j + 1) cap2) (j + 1) (((rowsN f l).take (j + 1)).flatMap enRw) ∧ Kp none' w w7) := by
                refine ⟨?_, (HK.out.alloc _).grown hgrow (fun b hb => .inr (own_block HO.out hb).1)⟩
                rw [hrow.out, List.flatMap_append]
                have : [rowN f l b].flatMap enRw = [.int .u64 (lo f b : Nat), .int .u64 (lo f (b + 1) - 1 : Nat), .int .u64 (C : Nat)] := by rw [hct.out]; rfl
                rw [this]
                exact hown
              clear hown hgrow
              go_wp2
              go_roundg ((ksN f l).length - (j + 1))
              case measure => omega
              case rel => exact ⟨j + 1, _, by omega, rfl, by rw [hlas.out], HF.out⟩
end Go.Proofs.Ytkhipbpjknfloaa
