/- The runs of ports of rules. -/
import Derived.Test.YthnlggecjdifnaaDoorRuS
namespace Go.Proofs.YthnlggecjdifnaaDoor
set_option linter.unusedVariables false
set_option linter.unusedSimpArgs false
open Go.RowKit

def enRun (p : Nat × Nat) : List Value := [.int .u16 p.1, .int .u64 p.2]
theorem enRun_len (p : Nat × Nat) : (enRun p).length = 2 := rfl
theorem tU16 : SlT Tryd.prog 72 23 (.int .u16 0) 1 2 := ⟨Tryd.underlying72, by kernel_rfl, rfl, by decide⟩
theorem tRun : SlT Tryd.prog 55 76 (.agg #[.int .u16 0, .int .u64 0]) 2 16 := ⟨Tryd.underlying55, by kernel_rfl, rfl, by decide⟩
theorem heap_newN (w : World) (o : Obj) {n : Nat} (h : n = w.heap.size) : (w.alloc o).heap[n]? = some o := by subst h; exact heap_new w o
theorem starts_snoc {l : List RuN} {j : Nat} (h : j < l.length) : startsN (l.take (j + 1)) = startsN (l.take j) ++ l[j].lo :: (if l[j].hi < 65535 then [l[j].hi + 1] else []) := by
  unfold startsN
  rw [List.take_succ_eq_append_getElem h, List.flatMap_append]
  simp only [List.flatMap_cons, List.flatMap_nil, List.append_nil, List.cons_append]
theorem starts_len (l : List RuN) : (startsN l).length ≤ 1 + 2 * l.length := by
  induction l with
  | nil => simp [startsN]
  | cons r l ih =>
    have e : (startsN (r :: l)).length = (startsN l).length + (1 + (if r.hi < 65535 then [r.hi + 1] else []).length) := by
      simp [startsN]; omega
    rw [e, List.length_cons]
    split <;> simp <;> omega
structure R1 (w wr : World) (l : List RuN) (v : Value) (j : Nat) : Prop where
  own : wr.ownsRow w.heap.size 23 1 v (startsN (l.take j)).length ((startsN (l.take j)).map eU)
  kp : Kp none' w wr
structure R2 (w wr : World) (l : List RuN) (zs : List Nat) (v : Value) (i : Nat) : Prop where
  own : wr.ownsRow w.heap.size 76 2 v i ((runsOf l (zs.take i)).flatMap enRun)
  kp : Kp none' w wr
theorem own_one (w : World) (x : Nat) : (w.alloc (.cells #[.int .u16 x] 23)).ownsRow w.heap.size 23 1 (.slice (some ⟨w.heap.size, 0, none⟩) 1 1) 1 [.int .u16 x] :=
  ⟨rfl, .inr ⟨w.heap.size, 1, #[.int .u16 x], rfl, Nat.le_refl _, heap_new _ _, Nat.le_refl _, by unfold maxLen; omega, rfl, rfl⟩⟩
set_option maxRecDepth 100000 in
set_option maxHeartbeats 8000000 in
theorem tRuns (l : List RuN) (hok : ∀ r ∈ l, r.Ok) (hn : l.length ≤ 64) (v : Value) (w : World) (h : Sl w v l.length 7 (l.flatMap enR7)) :
    Calls Tryd.prog 20 #[v] w fun e w' => ∃ rv zs, e = .returned rv ∧ Starts l zs ∧ zs.length ≤ 129 ∧ w'.ownsRow w.heap.size 76 2 rv zs.length ((runsOf l zs).flatMap enRun) ∧ Kp none' w w' := by
  obtain ⟨ao, cap, rfl⟩ : ∃ ao cap, v = .slice ao l.length cap := by obtain ⟨ao, cap, rfl, _⟩ := h.is; exact ⟨_, _, rfl⟩
  have HS := Lib.hid h
  have HO := Lib.hid hok
  have HI0 : Hid (R1 w (w.alloc (.cells #[.int .u16 0] 23)) l (.slice (some ⟨w.heap.size, 0, none⟩) 1 1) 0) := ⟨own_one w 0, (Kp.refl _ _).alloc _⟩
  clear h hok
  go_enter Tryd.func20, Tryd.ntmps20
  go_wp2_with fail
  go_loopw [3, 15] (fun s3 i wr => ∃ (j : Nat) (v3 : Value), v3 = s3 ∧ i = .int .i64 j ∧ j ≤ l.length ∧ Hid (R1 w wr l v3 j)) (fun _ i _ => l.length - (intOf i).toNat)
  case atStart => exact ⟨0, _, rfl, rfl, Nat.zero_le _, HI0.out⟩
  case round =>
    clear HI0
    obtain ⟨j, v3, rfl, rfl, hj, HI⟩ := hrel
    obtain ⟨wo, hwo⟩ : ∃ wo : World, wo = wr := ⟨_, rfl⟩
    subst hwo
    by_cases hlt : j < l.length
    · obtain ⟨g, off, cap', e1, hc⟩ := (HS.out.old HI.out.kp).at enR7_len (by decide) j hlt
      injection e1 with e1 _ e3
      cases e1
      subst e3
      have hji : (j : Int) < l.length := by omega
      have hsn := starts_snoc hlt
      obtain ⟨r, hrr⟩ : ∃ r, l[j] = r := ⟨_, rfl⟩
      have hok := HO.out r (by rw [← hrr]; exact List.getElem_mem hlt)
      rw [hrr] at hc hsn
      have c0 : wo.cell? ⟨g, off + j * 7, none⟩ = some (.int .u32 r.s.1) := hc 0 _ rfl
      have c1 := hc 1 _ rfl
      have c2 := hc 2 _ rfl
      have c3 := hc 3 _ rfl
      have c4 := hc 4 _ rfl
      have c5 := hc 5 _ rfl
      have c6 := hc 6 _ rfl
      have hl := starts_len (l.take j)
      rw [List.length_take] at hl
      have hl2 : (startsN (l.take j)).length ≤ 129 := by omega
      have hws := HI.out.kp.size
      have HB := Lib.hid (Blk.new wo (enR7 r) 48)
      have r4 := HB.out.cell 4 rfl
      clear hc hrr hl
      go_wp2_with (at_builtin; refine wp_app1 tU16 (.tmp 19) (.tmp 22) rfl rfl w.heap.size ((HI.out.own.alloc _).alloc _) [.int .u16 r.lo] rfl rfl rfl (heap_newN _ _ (by simp)) rfl (by omega) (by omega) (by simp; omega) ?_)
      intro g2 cap2 w4 hown hgrow
      have hk4 : Kp none' w w4 := ((HI.out.kp.alloc _).alloc _).grown hgrow (fun k hk => .inr (own_block HI.out.own hk).1)
      have hb4 := (HB.out.alloc (.cells #[.int .u16 r.lo] 23)).grown hgrow (fun e => by have := (own_block HI.out.own e.symm).2; omega)
      have r5 := hb4.cell 5 rfl
      have HOW := Lib.hid hown; have HK4 := Lib.hid hk4
      have HSN := Lib.hid hsn
      have hws4 := hk4.size
      clear hown hgrow hk4 hb4 hsn r4 c0 c1 c2 c3 c4 c5 c6 HB
      by_cases hh : r.hi < 65535
      · obtain ⟨q, hq⟩ : ∃ q, r.hi + 1 = q := ⟨_, rfl⟩
        have hw : IntKind.u16.wrap ((r.hi : Int) + 1) = (q : Int) := by rw [IntKind.wrap_u16]; omega
        have HHQ : Hid ((if r.hi < 65535 then [r.hi + 1] else []) = [q]) := by show _ = _; rw [if_pos hh, hq]
        have hhi : (r.hi : Int) < 65535 := by omega
        go_wp2_with (at_builtin; refine wp_app1 tU16 (.tmp 27) (.tmp 31) rfl rfl w.heap.size (HOW.out.alloc _) [.int .u16 q] rfl rfl rfl (heap_newN _ _ (by simp)) rfl (by omega) (by omega) (by simp; omega) ?_)
        intro g3 cap3 w5 hown5 hgrow5
        have hk5 : Kp none' w w5 := (HK4.out.alloc _).grown hgrow5 (fun k hk => .inr (own_block HOW.out hk).1)
        have HF : Hid (R1 w w5 l (.slice (some ⟨g3, 0, none⟩) ((startsN (l.take j)).length + 1 + 1) cap3) (j + 1)) := by
          refine ⟨?_, hk5⟩
          have e : startsN (l.take (j + 1)) = startsN (l.take j) ++ [r.lo, q] := by rw [HSN.out, HHQ.out]
          rw [e, List.length_append, List.map_append]
          simpa using hown5
        clear hown5 hgrow5 hk5 HOW
        go_wp2
        go_roundw
        case rel => exact ⟨j + 1, _, rfl, by go_num, by omega, HF.out⟩
        case measure => simp [intOf]; omega
      · have HHQ : Hid ((if r.hi < 65535 then [r.hi + 1] else []) = []) := by show _ = _; rw [if_neg hh]
        have hhi : ¬ (r.hi : Int) < 65535 := by omega
        have HF : Hid (R1 w w4 l (.slice (some ⟨g2, 0, none⟩) ((startsN (l.take j)).length + 1) cap2) (j + 1)) := by
          refine ⟨?_, HK4.out⟩
          have e : startsN (l.take (j + 1)) = startsN (l.take j) ++ [r.lo] := by rw [HSN.out, HHQ.out]
          rw [e, List.length_append, List.map_append]
          simpa using HOW.out
        clear HOW
        go_wp2
        go_roundw
        case rel => exact ⟨j + 1, _, rfl, by go_num, by omega, HF.out⟩
        case measure => simp [intOf]; omega
    · have hjn : j = l.length := by omega
      subst hjn
      have hl := starts_len l
      have hown := HI.out.own
      rw [List.take_length] at hown
      have hso := sortUint16.sortOf sortUint16.pdqAtAll (by omega) wo w.heap.size 23 v3 (startsN l) hown (by omega)
      have HSO := Lib.hid hso
      have HIo := Lib.hid HI.out.own
      have HKo := Lib.hid HI.out.kp
      clear hown hso
      go_wp2_with (go_at_call 33; refine HSO.out.mono ?_; rintro e w5 ⟨rfl, ys, hrs, hown5, hk5⟩
                   have hne : ys ≠ [] := fun e => by have := hrs.perm.length_eq; rw [e] at this; simp [startsN] at this
                   have HCM := Lib.hid (compactRow w5 w.heap.size v3 ys hown5 hne hrs.up)
                   have HRS := Lib.hid hrs; have HK5 := Lib.hid (HKo.out.then hk5 (fun b hb hbv => by have := (own_block HIo.out hbv).1; omega)); have HOW5 := Lib.hid hown5
                   clear hrs hown5 hk5 hne)
      refine HCM.out.mono ?_
      rintro e w6 ⟨ao2, cap2, zs, rfl, hup, hmem, hzl, hsl, hk6⟩
      have hst : Starts l zs := ⟨hup, fun x => (hmem x).trans HRS.out.perm.mem_iff⟩
      have hyl := HRS.out.perm.length_eq
      have hz129 : zs.length ≤ 129 := by omega
      have HST := Lib.hid hst; have HSL := Lib.hid hsl
      have HK6 := Lib.hid (HK5.out.then hk6 (fun b hb hbv => by have := (own_block HOW5.out hbv).1; omega))
      clear hup hmem hzl hsl hk6 hst hyl HCM HSO HOW5 hl HRS
      go_wp2_with fail
      go_loopw [6, 39] (fun s6 i wr => ∃ (i0 : Nat) (v6 : Value), v6 = s6 ∧ i = .int .i64 i0 ∧ i0 ≤ zs.length ∧ Hid (R2 w6 wr l zs v6 i0)) (fun _ i _ => zs.length - (intOf i).toNat)
      case atStart => exact ⟨0, _, rfl, rfl, Nat.zero_le _, ⟨by simp [runsOf], .inl ⟨rfl, rfl⟩⟩, Kp.refl _ _⟩
      case round =>
        obtain ⟨i0, v6, rfl, rfl, hi0, HI2⟩ := hrel
        obtain ⟨wi, hwi⟩ : ∃ wi : World, wi = wr := ⟨_, rfl⟩
        subst hwi
        by_cases hlt2 : i0 < zs.length
        · obtain ⟨gz, offz, capz, e1, hc⟩ := (HSL.out.old HI2.out.kp).at (enc := fun x => [eU x]) (fun _ => rfl) (by decide) i0 hlt2
          injection e1 with e1 _ e3
          subst e1 e3
          have hii : (i0 : Int) < zs.length := by omega
          obtain ⟨p, hp⟩ : ∃ p, zs[i0] = p := ⟨_, rfl⟩
          rw [hp] at hc
          have c0 : wi.cell? ⟨gz, offz + i0 * 1, none⟩ = some (.int .u16 p) := hc 0 _ rfl
          rw [Nat.mul_one] at c0
          obtain ⟨f, hf⟩ : ∃ f : Nat → Bool, f = fun k => inR (l.getD k default) p := ⟨_, rfl⟩
          have HF := Lib.hid hf; have HP := Lib.hid hp
          clear hc hf hp
          go_wp2_with fail
          go_loopw [9, 45] (fun m i wr => ∃ k : Nat, i = .int .i64 k ∧ k ≤ l.length ∧ m = .int .u64 (bitsOf f k : Nat) ∧ Hid (Kp none' wi wr)) (fun _ i _ => l.length - (intOf i).toNat)
          case atStart => exact ⟨0, rfl, Nat.zero_le _, rfl, Kp.refl _ _⟩
          case round =>
            obtain ⟨k, rfl, hk, rfl, HK⟩ := hrel
            by_cases hkl : k < l.length
            · obtain ⟨g, off, cap3, e1, hc⟩ := (HS.out.old ((HK6.out.trans HI2.out.kp).trans HK.out)).at enR7_len (by decide) k hkl
              injection e1 with e1 _ e3
              subst e1 e3
              have hki : (k : Int) < l.length := by omega
              have hk64 : k < 64 := by omega
              obtain ⟨o, ho⟩ : ∃ o, l[k] = o := ⟨_, rfl⟩
              rw [ho] at hc
              have d0 : wr.cell? ⟨g, off + k * 7, none⟩ = some (.int .u32 o.s.1) := hc 0 _ rfl
              have d1 := hc 1 _ rfl
              have d2 := hc 2 _ rfl
              have d3 := hc 3 _ rfl
              have d4 := hc 4 _ rfl
              have d5 := hc 5 _ rfl
              have d6 := hc 6 _ rfl
              have hfk : f k = inR o p := by rw [HF.out]; show inR (l.getD k default) p = _; rw [getD_at _ hkl, ho]
              have HKn := Lib.hid (HK.out.alloc (.cells #[.int .u32 o.s.1, .int .i64 o.s.2, .int .u32 o.d.1, .int .i64 o.d.2, .int .u16 o.lo, .int .u16 o.hi, .int .u32 o.fl] 48))
              clear hc ho
              cases hfv : f k with
              | true =>
                have hor := bits_step hk64 hfv
                rw [hfk] at hfv
                unfold inR at hfv
                rw [Bool.and_eq_true, decide_eq_true_eq, decide_eq_true_eq] at hfv
                obtain ⟨h1, h2⟩ := hfv
                obtain ⟨m, hm⟩ : ∃ m, bitsOf f k = m := ⟨_, rfl⟩
                obtain ⟨m', hm'⟩ : ∃ m, bitsOf f (k + 1) = m := ⟨_, rfl⟩
                rw [hm, hm'] at hor
                have HM' := Lib.hid hm'
                simp only [hm]
                clear hm hm' hfk
                go_wp2_with fail
                go_roundw
                case rel => exact ⟨k + 1, by go_num, by omega, by rw [HM'.out], HKn.out⟩
                case measure => simp [intOf]; omega
              | false =>
                have hsk := bits_skip hfv
                have HSK := Lib.hid hsk
                rw [hfk] at hfv
                unfold inR at hfv
                obtain ⟨m, hm⟩ : ∃ m, bitsOf f k = m := ⟨_, rfl⟩
                have HM' := Lib.hid hm
                simp only [hm]
                clear hm hsk hfk
                by_cases h1 : o.lo ≤ p
                · have h2 : ¬ p ≤ o.hi := by
                    intro h2
                    rw [decide_eq_true h1, decide_eq_true h2] at hfv; cases hfv
                  clear hfv
                  go_wp2_with fail
                  go_roundw
                  case rel => exact ⟨k + 1, by go_num, by omega, by rw [HSK.out, HM'.out], HKn.out⟩
                  case measure => simp [intOf]; omega
                · clear hfv
                  go_wp2_with fail
                  go_roundw
                  case rel => exact ⟨k + 1, by go_num, by omega, by rw [HSK.out, HM'.out], HKn.out⟩
                  case measure => simp [intOf]; omega
            · have hkn : k = l.length := by omega
              subst hkn
              have hset : bitsOf f l.length = setR l p := by rw [HF.out]; rfl
              obtain ⟨m, hm⟩ : ∃ m, bitsOf f l.length = m := ⟨_, rfl⟩
              rw [hm] at hset
              have HSET := Lib.hid hset
              simp only [hm]
              have hws2 := (HI2.out.kp.trans HK.out).size
              have HOW := Lib.hid (own_kp (S := none') HI2.out.own HK.out (fun _ _ h => h))
              clear hm hset
              go_wp2_with (at_builtin; refine wp_app1 tRun (.tmp 65) (.tmp 69) rfl rfl w6.heap.size (HOW.out.alloc _) [.int .u16 p, .int .u64 m] rfl rfl rfl (heap_newN _ _ (by simp)) rfl (by omega) (by omega) (by simp; omega) ?_)
              intro g3 cap4 w8 hown8 hgrow8
              have hk8 : Kp none' w6 w8 := ((HI2.out.kp.trans HK.out).alloc _).grown hgrow8 (fun k hk => .inr (own_block HOW.out hk).1)
              have HF8 : Hid (R2 w6 w8 l zs (.slice (some ⟨g3, 0, none⟩) (i0 + 1) cap4) (i0 + 1)) := by
                refine ⟨?_, hk8⟩
                have e : (runsOf l (zs.take (i0 + 1))).flatMap enRun = (runsOf l (zs.take i0)).flatMap enRun ++ [.int .u16 p, .int .u64 m] := by
                  rw [List.take_succ_eq_append_getElem hlt2, HP.out]
                  unfold runsOf
                  rw [List.map_append, List.flatMap_append, HSET.out]
                  rfl
                rw [e]
                exact hown8
              clear hown8 hgrow8 hk8 HOW
              go_wp2
              go_roundw
              case rel => exact ⟨i0 + 1, _, rfl, by go_num, by omega, HF8.out⟩
              case measure => simp [intOf]; omega
        · have hin : i0 = zs.length := by omega
          subst hin
          have hown := HI2.out.own
          rw [List.take_length] at hown
          have HOW := Lib.hid hown
          clear hown
          go_wp2_with fail
          go_ret
          exact ⟨_, zs, rfl, HST.out, hz129, own_base HOW.out HK6.out.size, HK6.out.trans HI2.out.kp⟩
end Go.Proofs.YthnlggecjdifnaaDoor
