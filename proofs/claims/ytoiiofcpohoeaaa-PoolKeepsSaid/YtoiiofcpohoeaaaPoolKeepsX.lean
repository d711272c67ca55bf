/- The law PoolKeeps, walked: its start and its loop (under way: holes). -/
import Derived.Test.YtoiiofcpohoeaaaPoolKeepsW
import Derived.Test.YtoiiofcpohoeaaaPoolL
import Derived.Test.YtoiiofcpohoeaaaPoolS
import Derived.Test.YtoiiofcpohoeaaaKeepsN
import Derived.Deep.DeepCutAuto
import Derived.Deep.CutBlock
namespace Go.Proofs.Ytoiiofcpohoeaaa
open Go.RowKit poolInt
set_option linter.unusedVariables false

def enAct7k (a : Nat × Int × Int) : List Value := [.int .u8 a.1, .int .i64 a.2.1, .int .i64 a.2.2]
theorem enAct7k_len (a : Nat × Int × Int) : (enAct7k a).length = 3 := rfl
theorem infoi7 : (Try.prog.info? 3).map (fun i => (i.zero, i.size, i.bytes)) = some (some (.int .i64 0), 1, 8) := by kernel_rfl
theorem infob7 : (Try.prog.info? 4).map (fun i => (i.zero, i.size, i.bytes)) = some (some (.bool false), 1, 1) := by kernel_rfl

abbrev kw (w1 : World) (r : Nat) : World := (w1.alloc (.cells (List.replicate (r + 1) (Value.int .i64 0)).toArray 3)).alloc (.cells (List.replicate (r + 1) (Value.bool false)).toArray 4)
theorem rel0 (r : Nat) (hr : r < 40) : Rel (⟨[], List.replicate 3 (-1, -1), (r : Int) + 1, -1, 0⟩ : PS Int) ⟨(r : Int) + 1, 3, [], [], [], 0⟩ := by
  have ht : ∀ i, tk (⟨[], List.replicate 3 (-1, -1), (r : Int) + 1, -1, 0⟩ : PS Int) i = none := fun i => by unfold tk; split <;> simp
  exact { most := rfl, most1 := ⟨by simp only; omega, by simp only; omega⟩, queues := by simp, never := rfl, room := by simp; omega, count := rfl, n := rfl,
          find := fun i => by rw [ht]; rfl, inodup := by simp, irange := by simp, free := rfl, bnodup := by simp, brange := by simp,
          queue := fun q hd tl hq => by
            have := List.mem_of_getElem? hq
            rw [List.mem_replicate] at this
            obtain ⟨_, e⟩ := this
            cases e
            exact ⟨rfl, rfl⟩
          qnodup := by simp, qrange := by simp, queued := fun i c hc => (by rw [ht] at hc; simp at hc), qtaken := by simp }
theorem kstart (w w1 : World) (p bq r : Nat) (hr : r < 40) (h : PMem w1 w.heap.size p bq (.slice none 0 0) ⟨[], List.replicate 3 (-1, -1), (r : Int) + 1, -1, 0⟩) (hk : Kp none' w w1) :
    Keeps w.heap.size (kw w1 r) p bq w1.heap.size (w1.heap.size + 1) (.slice none 0 0) ⟨[], List.replicate 3 (-1, -1), (r : Int) + 1, -1, 0⟩ ⟨(r : Int) + 1, 3, [], [], [], 0⟩ (List.replicate (r + 1) 0) (List.replicate (r + 1) false) (r + 1) 0 ∧ Kp none' w (kw w1 r) := by
  have hk2 : Kp none' w1 (kw w1 r) := ((Kp.refl _ _).alloc _).alloc _
  have ht : ∀ i, tk (⟨[], List.replicate 3 (-1, -1), (r : Int) + 1, -1, 0⟩ : PS Int) i = none := fun i => by unfold tk; split <;> simp
  refine ⟨⟨h.old hk2, rel0 r hr, rfl, by simp, ?_, ?_, by simp, by simp, fun i hi => ?_, ⟨hk.size, Nat.le_succ_of_le hk.size⟩, Nat.le_refl _⟩, hk.trans hk2⟩
  · have e : ints (List.replicate (r + 1) 0) = List.replicate (r + 1) (Value.int .i64 0) := by simp [ints]
    rw [e]; exact (Blk.new _ _ _).alloc _
  · have e : bools (List.replicate (r + 1) false) = List.replicate (r + 1) (Value.bool false) := by simp [bools]
    rw [e]
    have := Blk.new (w1.alloc (.cells (List.replicate (r + 1) (Value.int .i64 0)).toArray 3)) (List.replicate (r + 1) (Value.bool false)) 4
    simpa [kw] using this
  · unfold had; rw [ht]
    simp [List.getD, List.getElem?_replicate, hi]

set_option maxRecDepth 100000 in
set_option maxHeartbeats 4000000 in
theorem keeps07 (most : Nat) (l : List (Nat × Int × Int)) (v : Value) (w : World) (hmost : most < 256) (hl : Sl w v l.length 3 (l.flatMap enAct7k)) (hok : ∀ a ∈ l, a.1 < 256) :
    Calls Try.prog 4 #[.int .u8 most, v] w fun e w' => e = .returned (.bool true) ∧ Kp none' w w' := by
  have hm := hl.max
  have hlive : ∀ W, Kp none' w W → Calls Try.prog 6 #[] W fun e w' => e = .returned (.bool true) ∧ Kp none' w w' := fun W k => (pLives W).mono fun e w' ⟨h1, h2⟩ => ⟨h1, k.trans h2⟩
  have HLV := Lib.hid hlive
  clear hlive
  by_cases hA : 200 < l.length
  · obtain ⟨ao, cap, rfl, _⟩ := hl.is
    clear hl hok
    go_enter Try.func4, Try.ntmps4
    go_wp2_with (go_at_call 6; refine (HLV.out _ (Kp.refl _ _)).mono ?_; rintro e w2 ⟨rfl, hk2⟩)
    go_ret
    exact ⟨rfl, hk2⟩
  · have hlen : l.length ≤ 200 := by omega
    obtain ⟨r, hr, hmr⟩ : ∃ r : Nat, r < 40 ∧ ((most : Int) % 40) = r := ⟨most % 40, Nat.mod_lt _ (by decide), by omega⟩
    have hN := Lib.hid (poolInt.pNew ((r : Int) + 1) 3 w (by omega) (by omega) (by omega))
    obtain ⟨ao, cap, hv, _⟩ := hl.is
    have HL := Lib.hid hl
    subst hv
    clear hl hA
    go_enter Try.func4, Try.ntmps4
    go_wp2_with fail
    refine (hN.out).mono ?_
    rintro e w1 ⟨p, bq, rfl, hp, hk1⟩
    have HP := Lib.hid hp; have HK := Lib.hid hk1
    clear hp hk1
    have hmi := run_make_row' (P := Try.prog) 32 3 (.int .i64 0) 8 Try.underlying32 infoi7 rfl .i64 .i64 (r + 1) (by omega) (by omega)
    have hmb := run_make_row' (P := Try.prog) 47 4 (.bool false) 1 Try.underlying47 infob7 rfl .i64 .i64 (r + 1) (by omega) (by omega)
    rw [made1] at hmi hmb
    simp only [show ((r + 1 : Nat) : Int) = (r : Int) + 1 from by omega] at hmi hmb
    have hK0 := Lib.hid (kstart w w1 p bq r hr HP.out HK.out)
    go_wp2
    go_loopg [45] l.length (fun g s45 wr => ∃ (j : Nat) (vc : Value) (S : PS Int) (R : RP Int) (H : List Int) (I : List Bool), j ≤ l.length ∧ s45 = .int .i64 j ∧ g = l.length - j ∧ Hid (Keeps w.heap.size wr p bq w1.heap.size (w1.heap.size + 1) vc S R H I (r + 1) j ∧ Kp none' w wr))
    case atStart => exact ⟨0, _, _, _, _, _, Nat.zero_le _, rfl, rfl, hK0.out⟩
    case round =>
      obtain ⟨j, vc, S, R, H, I, hj, rfl, hgk, hb⟩ := hrel
      by_cases hlt : j < l.length
      · obtain ⟨ab, off, cap', hv, hcell⟩ := HL.out.at enAct7k_len (by decide) j hlt
        cases hv
        obtain ⟨a, ha⟩ : ∃ a, l[j] = a := ⟨_, rfl⟩
        rw [ha] at hcell
        have hz : a.1 < 256 := hok a (by rw [← ha]; exact List.getElem_mem hlt)
        obtain ⟨z, q, x⟩ := a
        have hkr := hb.out.2
        have e0 := hkr.cell (hcell 0 (.int .u8 z) rfl) id
        have e1 := hkr.cell (hcell 1 (.int .i64 q) rfl) id
        have e2 := hkr.cell (hcell 2 (.int .i64 x) rfl) id
        rw [Nat.add_zero] at e0
        simp only at hz
        have HMB := Lib.hid hmb
        clear hcell ha hkr hmi hmb hK0 HP HK hN
        have HGK := Lib.hid hgk; clear hgk
        obtain ⟨kk, hkk, hke⟩ := umod x (r + 1) (by omega) (by omega)
        obtain ⟨qq, hqq, hqe⟩ := umod q 3 (by omega) (by omega)
        rw [show ((r + 1 : Nat) : Int) = (r : Int) + 1 from by omega] at hke
        rw [show ((3 : Nat) : Int) = 3 from rfl] at hqe
        obtain ⟨rr, hr8, hmr8⟩ : ∃ rr : Nat, rr < 8 ∧ ((z : Int) % 8) = rr := ⟨z % 8, Nat.mod_lt _ (by decide), by omega⟩
        have HMR8 := Lib.hid hmr8; clear hmr8
        have HKE := Lib.hid hke
        have HQE := Lib.hid hqe
        clear hqe hke
        go_upto_block 2 with (fail)
        rw [HKE.out]
        have hx := hb.out.1.old ((Kp.refl _ _).alloc (.cells #[.int .u8 z, .int .i64 q, .int .i64 x] 36))
        have hkx := hb.out.2.alloc (.cells #[.int .u8 z, .int .i64 q, .int .i64 x] 36)
        have hbq : Blk (wr.alloc (.cells #[.int .u8 z, .int .i64 q, .int .i64 x] 36)) wr.heap.size [.int .u8 z, .int .i64 q, .int .i64 x] 36 := Blk.new _ _ _
        have hnq : ∀ b, PF p bq vc b → b ≠ wr.heap.size := fun b hf e => by
          rcases hf with rfl | rfl | hf
          · have := hb.out.1.pm.top.lt; omega
          · have := hb.out.1.pm.queues.lt; omega
          · have := (own_block hb.out.1.pm.cells hf).2; omega
        have HNQ := Lib.hid hnq
        clear hb e0 e1 e2 HKE hnq
        generalize wr.alloc (.cells #[.int .u8 z, .int .i64 q, .int .i64 x] 36) = wx at *
        generalize wr.heap.size = q0 at *
        have d0 := hbq.cell 0 rfl
        have d1 := hbq.cell 1 rfl
        have d2 := hbq.cell 2 rfl
        have HX := Lib.hid hx; have HKX := Lib.hid hkx
        clear hx hkx hbq
        go_cut [12, 59] (fun s12 s59 wc => ∃ (vc : Value) (S : PS Int) (R : RP Int) (H : List Int) (I : List Bool), Hid (Keeps w.heap.size wc p bq w1.heap.size (w1.heap.size + 1) vc S R H I (r + 1) (j + 1) ∧ Kp none' w wc))
        case first =>
          have HW := Lib.hid HKX.out.size
          have bn := HX.out.rel.bnd
          have hfin : ∀ (w2 : World), (∃ (vc' : Value) (S' : PS Int) (R' : RP Int) (H' : List Int) (I' : List Bool), Keeps w.heap.size w2 p bq w1.heap.size (w1.heap.size + 1) vc' S' R' H' I' (r + 1) (j + 1)) → Kp (fun b => w.heap.size ≤ b) wx w2 → ∃ (vc : Value) (S : PS Int) (R : RP Int) (H : List Int) (I : List Bool), Hid (Keeps w.heap.size w2 p bq w1.heap.size (w1.heap.size + 1) vc S R H I (r + 1) (j + 1) ∧ Kp none' w w2) := by
            rintro w2 ⟨vc', S', R', H', I', h1⟩ h2
            exact ⟨vc', S', R', H', I', h1, HKX.out.then h2 (fun b hb hf => by omega)⟩
          have hlo := HX.out.lo
          have hpf : ∀ b, PF p bq vc b → w.heap.size ≤ b := fun b hf => HX.out.pm.new hf
          have HFIN := Lib.hid hfin; have HPF := Lib.hid hpf
          have HLO := Lib.hid hlo
          clear hfin hpf hlo
          have hcase : (rr = 0 ∨ rr = 1 ∨ rr = 2) ∨ (rr = 3 ∨ rr = 4) ∨ (rr = 5 ∨ rr = 6) ∨ rr = 7 := by omega
          clear hr8
          rcases hcase with hc | hc | hc | hc
          · rcases hc with rfl | rfl | rfl
            all_goals
              as_aux_lemma =>
              have hmr8 := HMR8.out
              have tp := pTake wx w.heap.size p bq vc S j HX.out.pm bn.cs HW.out bn.n bn.most bn.free
              have hrel := HX.out.rel.take j
              cases hok : (S.take j).2.2 with
              | false =>
                have hno := take_no S j hok
                rw [hok] at tp
                have TP := Lib.hid tp; have HNO := Lib.hid hno; have HREL := Lib.hid hrel
                generalize (S.take j).2.1 = hh at *
                clear tp hrel hok hno
                go_wp2_with fail
                refine (TP.out).mono ?_
                rintro e w2 ⟨rfl, s1⟩
                have S1 := Lib.hid s1; clear s1
                go_wp2_with fail
                go_meet
                case rel =>
                  obtain ⟨vc', k1, k2⟩ := HX.out.step S1.out HREL.out.1 (take_qs S j) (take_most S j) (take_inn R j) (fun i => by rw [HNO.out])
                  exact HFIN.out _ ⟨_, _, _, _, _, k1⟩ (k2.mono (fun b _ hf => HPF.out b hf))
              | true =>
                obtain ⟨t0, t1, t2, t3⟩ := had_take HX.out.rel j hok
                have hmo := HX.out.most
                obtain ⟨hh, hhe⟩ : ∃ hh : Nat, (S.take j).2.1 = hh := ⟨(S.take j).2.1.toNat, by omega⟩
                rw [hok, hhe] at tp
                rw [hhe] at t0 t1 t2 t3
                have hlt2 : hh < r + 1 := by omega
                have hI : I.getD hh false = false := by
                  have e := HX.out.had hh hlt2
                  rw [t2] at e
                  cases e2 : I.getD hh false with
                  | false => rfl
                  | true => rw [e2] at e; simp at e
                have ci := bools_cell HX.out.il hlt2
                have cx := ints_cell HX.out.hl hlt2
                rw [hI] at ci
                have TP := Lib.hid tp; have HREL := Lib.hid hrel; have T3 := Lib.hid t3; have CI := Lib.hid ci; have CX := Lib.hid cx
                clear tp hrel hok hhe t0 t1 t2 t3 hI ci cx hmo bn
                have hi1 : (0 : Int) ≤ (hh : Int) := by omega
                have hi2 : (hh : Int) < (r : Int) + 1 := by omega
                go_wp2_with fail
                refine (TP.out).mono ?_
                rintro e w2 ⟨rfl, s1⟩
                have S1 := Lib.hid s1
                obtain ⟨vc', pm', K⟩ := s1
                obtain ⟨n1, n2, n3⟩ := HX.out.ne
                have hsb := HX.out.hs.kp K n2
                have isb := HX.out.is.kp K n3
                have c1 := hsb.cell hh CX.out
                have c2 := isb.cell hh CI.out
                have f1 := hsb.fz hh
                have f2 := isb.fz hh
                have KK := Lib.hid K
                clear K pm' n1 n2 n3 hsb isb
                go_wp2_with fail
                go_meet
                case rel =>
                  obtain ⟨vc', k1, k2⟩ := HX.out.take S1.out HREL.out.1 (take_qs S j) (take_most S j) (take_inn R j) hh j hlt2 T3.out
                  exact HFIN.out _ ⟨_, _, _, _, _, k1⟩ (((k2.mono (fun b _ hf => HPF.out b hf)).set (.inl HLO.out.1) _).set (.inl HLO.out.2) _)
          · rcases hc with rfl | rfl
            all_goals
              as_aux_lemma =>
              have hmr8 := HMR8.out
              have tp := pGive wx w.heap.size p bq vc S HX.out.pm kk bn.cs HW.out bn.n bn.free2
              simp only [zx] at tp
              have hrel := HX.out.rel.give 0 kk
              by_cases hok : (S.give 0 kk).2.2 = 0
              · obtain ⟨t0, t1⟩ := had_give HX.out.rel kk hok
                have hI : I.getD kk false = true ∧ (S.give 0 kk).2.1 = H.getD kk 0 := by
                  have e := HX.out.had kk hkk
                  rw [t0] at e
                  cases e2 : I.getD kk false with
                  | false => rw [e2] at e; simp at e
                  | true => rw [e2] at e; simp at e; exact ⟨rfl, e⟩
                have ci := bools_cell HX.out.il hkk
                have cx := ints_cell HX.out.hl hkk
                rw [hI.1] at ci
                rw [hok, hI.2] at tp
                obtain ⟨yy, hyy⟩ : ∃ yy, H.getD kk 0 = yy := ⟨_, rfl⟩
                rw [hyy] at cx tp
                have TP := Lib.hid tp; have HREL := Lib.hid hrel; have T1 := Lib.hid t1; have CI := Lib.hid ci; have CX := Lib.hid cx
                clear tp hrel hok t0 t1 hI ci cx bn hyy
                have hi1 : (0 : Int) ≤ (kk : Int) := by omega
                have hi2 : (kk : Int) < (r : Int) + 1 := by omega
                have hyn : (yy != yy) = false := by simp
                go_wp2_with fail
                refine (TP.out).mono ?_
                rintro e w2 ⟨rfl, s1⟩
                have S1 := Lib.hid s1
                obtain ⟨vc', pm', K⟩ := s1
                obtain ⟨n1, n2, n3⟩ := HX.out.ne
                have hsb := HX.out.hs.kp K n2
                have isb := HX.out.is.kp K n3
                have c1 := hsb.cell kk CX.out
                have c2 := isb.cell kk CI.out
                have f2 := isb.fz kk
                clear K pm' n1 n2 n3 hsb isb
                go_wp2_with fail
                go_meet
                case rel =>
                  obtain ⟨vc', k1, k2⟩ := HX.out.give S1.out HREL.out.1 (give_qs S 0 kk) (give_most S 0 kk) (give_inn R 0 kk) kk hkk T1.out
                  exact HFIN.out _ ⟨_, _, _, _, _, k1⟩ ((k2.mono (fun b _ hf => HPF.out b hf)).set (.inl HLO.out.2) _)
              · have hno := give_no S kk hok
                obtain ⟨cc, hcc⟩ : ∃ cc, (S.give 0 kk).2.2 = cc := ⟨_, rfl⟩
                rw [hcc] at tp hok
                have hcb : (cc == 0) = false := by simpa using hok
                have TP := Lib.hid tp; have HREL := Lib.hid hrel; have HNO := Lib.hid hno
                generalize (S.give 0 kk).2.1 = yy at *
                clear tp hrel hno hcc hok
                go_wp2_with fail
                refine (TP.out).mono ?_
                rintro e w2 ⟨rfl, s1⟩
                have S1 := Lib.hid s1; clear s1
                go_wp2_with fail
                go_meet
                case rel =>
                  obtain ⟨vc', k1, k2⟩ := HX.out.step S1.out HREL.out.1 (give_qs S 0 kk) (give_most S 0 kk) (give_inn R 0 kk) (fun i => by rw [HNO.out])
                  exact HFIN.out _ ⟨_, _, _, _, _, k1⟩ (k2.mono (fun b _ hf => HPF.out b hf))
          · rcases hc with rfl | rfl
            all_goals
              as_aux_lemma =>
              have hmr8 := HMR8.out
              have tp := pAppend wx w.heap.size p bq vc S R HX.out.pm HX.out.rel qq kk (by rw [HX.out.qs]; decide)
              have hrel := HX.out.rel.append qq kk
              have TP := Lib.hid tp; have HREL := Lib.hid hrel
              clear tp hrel bn
              go_wp2_with fail
              rw [HQE.out]
              refine (TP.out).mono ?_
              rintro e w2 ⟨rfl, s1⟩
              have S1 := Lib.hid s1; clear s1
              go_wp2_with fail
              go_meet
              case rel =>
                obtain ⟨vc', k1, k2⟩ := HX.out.step S1.out HREL.out.1 (append_qs S qq kk) (append_most S qq kk) (append_inn R qq kk) (fun i => had_append HX.out.rel qq kk i)
                exact HFIN.out _ ⟨_, _, _, _, _, k1⟩ (k2.mono (fun b _ hf => HPF.out b hf))
          · subst hc
            as_aux_lemma =>
            have hmr8 := HMR8.out
            have tp := pPop wx w.heap.size p bq vc S R HX.out.pm HX.out.rel qq (by rw [HX.out.qs]; decide)
            have hrel := HX.out.rel.pop qq
            have TP := Lib.hid tp; have HREL := Lib.hid hrel
            clear tp hrel bn
            go_wp2_with fail
            rw [HQE.out]
            refine (TP.out).mono ?_
            rintro e w2 ⟨rfl, s1⟩
            have S1 := Lib.hid s1; clear s1
            go_wp2_with fail
            go_meet
            case rel =>
              obtain ⟨vc', k1, k2⟩ := HX.out.step S1.out HREL.out.1 (pop_qs S qq) (pop_most S qq) (pop_inn R qq) (fun i => had_pop HX.out.rel qq i)
              exact HFIN.out _ ⟨_, _, _, _, _, k1⟩ (k2.mono (fun b _ hf => HPF.out b hf))
        case rest =>
          as_aux_lemma =>
          obtain ⟨vc', S', R', H', I', hb'⟩ := hcut
          clear HX HKX HNQ HMR8 HQE d0 d1 d2 hkk hqq
          have hQ := fun (W : World) (K : Kp none' wc W) (i : Int) => kQueue (hb'.out.1.old K).pm hb'.out.1.rel (by rw [hb'.out.1.qs]; decide) (by have := hb'.out.1.inn; omega) i
          have l0 := q_le hb'.out.1.inn 0
          have l1 := q_le hb'.out.1.inn 1
          have l2 := q_le hb'.out.1.inn 2
          have hqs := hb'.out.1.queue
          obtain ⟨q0l, e0⟩ : ∃ x, R'.q 0 = x := ⟨_, rfl⟩
          obtain ⟨q1l, e1⟩ : ∃ x, R'.q 1 = x := ⟨_, rfl⟩
          obtain ⟨q2l, e2⟩ : ∃ x, R'.q 2 = x := ⟨_, rfl⟩
          have hQ0 := hQ wc (Kp.refl _ _) 0
          have hQ1 := fun W K => hQ W K 1
          have hQ2 := fun W K => hQ W K 2
          rw [e0, e1, e2] at hqs
          simp only [e0] at l0 hQ0
          simp only [e1] at l1 hQ1
          simp only [e2] at l2 hQ2
          have HQ0 := Lib.hid hQ0; have HQ1 := Lib.hid hQ1; have HQ2 := Lib.hid hQ2; have HQS := Lib.hid hqs
          clear hQ hQ0 hQ1 hQ2 e0 e1 e2 hqs
          go_wp2_with fail
          refine (HQ0.out).mono ?_
          rintro e w3 ⟨v0, rfl, o0, k0⟩
          have O0 := Lib.hid o0; have K0 := Lib.hid k0; clear o0 k0
          go_wp2_with fail
          refine (HQ1.out w3 K0.out).mono ?_
          rintro e w4 ⟨v1, rfl, o1, k1⟩
          have O0' := Lib.hid (own_kp O0.out k1 (fun _ _ h => h)); have O1 := Lib.hid o1; have K1 := Lib.hid (K0.out.trans k1); clear o1 k1 HQ1 HQ0 O0 K0
          go_wp2_with (at_builtin; refine wp_appO tInt (.tmp 137) (.tmp 139) rfl rfl wc.heap.size O0'.out (ints q1l) rfl rfl O1.out (ints_one _) (by omega) (by unfold maxLen; omega) K1.out.size ?_)
          intro v2 w5 o2 g2
          have K2 := Lib.hid (K1.out.grown g2 (fun b hb => .inr (own_block O0'.out hb).1)); have O2 := Lib.hid o2; clear o2 g2
          go_wp2_with fail
          refine (HQ2.out w5 K2.out).mono ?_
          rintro e w6 ⟨v3, rfl, o3, k3⟩
          have O2' := Lib.hid (own_kp O2.out k3 (fun _ _ h => h)); have O3 := Lib.hid o3; have K3 := Lib.hid (K2.out.trans k3); clear o3 k3 HQ2 O2 K2
          go_wp2_with (at_builtin; refine wp_appO tInt (.tmp 140) (.tmp 142) rfl rfl wc.heap.size O2'.out (ints q2l) rfl rfl O3.out (ints_one _) (by omega) (by unfold maxLen; omega) K3.out.size ?_)
          intro v4 w7 o4 g4
          have hk7 := K3.out.grown g4 (fun b hb => .inr (own_block O2'.out hb).1)
          have hh7 := hb'.out.1.old hk7
          have ht7 := hb'.out.2.trans hk7
          rw [← ints_app, ← ints_app, show q0l.length + q1l.length + q2l.length = (q0l ++ (q1l ++ q2l)).length from by simp; omega] at o4
          have hal : (q0l ++ (q1l ++ q2l)).length ≤ 1000000 := by simp; omega
          obtain ⟨al, hale⟩ : ∃ al, q0l ++ (q1l ++ q2l) = al := ⟨_, rfl⟩
          have hqs := HQS.out
          rw [List.append_assoc] at hqs
          rw [hale] at o4 hal hqs
          obtain ⟨ao4, cap4, rfl⟩ := own_shape o4
          have O4 := Lib.hid o4; have H7 := Lib.hid hh7; have T7 := Lib.hid ht7; have HND := Lib.hid hqs.1; have HAL := Lib.hid hqs.2
          clear o4 hh7 ht7 hk7 hale hqs HQS g4 O2' O3 K3 O0' O1 K1 hb'
          have hmb := HMB.out
          go_wp2
          clear hmb HMB
          have hsn : Blk (w7.alloc (.cells (Array.replicate (r + 1) (Value.bool false)) 4)) w7.heap.size (bools (List.replicate (r + 1) false)) 4 := by
            have e : bools (List.replicate (r + 1) false) = List.replicate (r + 1) (Value.bool false) := by simp [bools]
            have e2 := Blk.new w7 (List.replicate (r + 1) (Value.bool false)) 4
            rw [e]; simpa using e2
          have hk8 : Kp none' w7 (w7.alloc (.cells (Array.replicate (r + 1) (Value.bool false)) 4)) := (Kp.refl _ _).alloc _
          have H8 := Lib.hid (H7.out.old hk8)
          have T8 := Lib.hid (T7.out.trans hk8)
          have O8 := Lib.hid (own_kp O4.out hk8 (fun _ _ h => h))
          have hws : w.heap.size ≤ w7.heap.size := T7.out.size
          have hs1 : ∀ b, (PF p bq vc' b ∨ b = w1.heap.size ∨ b = w1.heap.size + 1) → ¬ b = w7.heap.size := fun b hb e => by have := H7.out.lt b hb; omega
          have hs2 : ∀ b, (Value.slice ao4 al.length cap4).ownBlock = some b → ¬ b = w7.heap.size := fun b hb e => by have := (own_block O4.out hb).2; omega
          have HWS := Lib.hid hws; have HS1 := Lib.hid hs1; have HS2 := Lib.hid hs2; have HSN := Lib.hid hsn
          clear H7 T7 O4 hk8 hws hs1 hs2 hsn
          generalize w7.alloc (.cells (Array.replicate (r + 1) (Value.bool false)) 4) = w8 at *
          generalize w7.heap.size = sb at *
          go_loopg [148] al.length (fun g s148 wz => ∃ (i : Nat) (L : List Bool), i ≤ al.length ∧ s148 = .int .i64 i ∧ g = al.length - i ∧ Hid (Seen L (r + 1) (al.take i) ∧ Blk wz sb (bools L) 4 ∧ Kp (fun b => b = sb) w8 wz))
          case atStart => exact ⟨0, _, Nat.zero_le _, rfl, rfl, Seen.zero _, HSN.out, Kp.refl _ _⟩
          case round =>
            obtain ⟨i, L, hi, rfl, hgi, hz⟩ := hrel
            have HGI := Lib.hid hgi; clear hgi
            by_cases hil : i < al.length
            · obtain ⟨ii, hze, hii, hI⟩ := HAL.out al[i] (List.getElem_mem hil)
              obtain ⟨bA, oA, hao, cA⟩ : ∃ bA oA, ao4 = some ⟨bA, oA, none⟩ ∧ wr.cell? ⟨bA, oA + i, none⟩ = some (.int .i64 ii) := by
                have ho := own_kp O8.out hz.out.2.2 HS2.out
                obtain ⟨ao, cap', hv, hc⟩ := (own_sl ho).is
                cases hv
                obtain ⟨b, off, e1, h1⟩ := hc i _ (ints_get al i hil)
                rw [hze] at h1
                exact ⟨b, off, e1, h1⟩
              subst hao
              have hns := hz.out.1.not ii (by rw [← hze]; exact nodup_take HND.out i hil)
              have cS := hz.out.2.1.cell ii (bools_cell hz.out.1.1 hii)
              have fS := hz.out.2.1.fz ii
              have hkk8 := H8.out.kp hz.out.2.2 HS1.out
              have cI := hkk8.is.cell ii (bools_cell hkk8.il hii)
              rw [hns] at cS
              rw [hI] at cI
              have HZE := Lib.hid hze
              clear hze hns hI hkk8
              have hi1 : (0 : Int) ≤ (ii : Int) := by omega
              have hi2 : (ii : Int) < (r : Int) + 1 := by omega
              go_wp2
              go_roundg (al.length - (i + 1))
              case measure => have := HGI.out; omega
              case rel =>
                refine ⟨i + 1, L.set ii true, by omega, by go_num, rfl, ?_, ?_, ?_⟩
                · rw [List.take_succ_eq_append_getElem hil, HZE.out]; exact hz.out.1.next ii hii
                · rw [bools_set]; exact hz.out.2.1.set ii _
                · exact Kp.set (S := fun b => b = sb) hz.out.2.2 (p := ⟨sb, ii, none⟩) (.inl rfl) _
            · have hkk8 := H8.out.kp hz.out.2.2 HS1.out
              have hT := T8.out.then hz.out.2.2 (fun b hb hf => by have := HWS.out; omega)
              have H9 := Lib.hid hkk8; have T9 := Lib.hid hT
              have hG := fun (i : Nat) hi => hkk8.get i hi
              have HG := Lib.hid hG
              clear hkk8 hT hz H8 T8 O8 HWS HS1 HS2 HSN HND HAL hG
              go_wp2
              go_loop [177] (fun s177 => ∃ h : Nat, h ≤ r + 1 ∧ s177 = .int .i64 h) (fun s177 => r + 1 - (intOf s177).toNat)
              case atStart => exact ⟨0, Nat.zero_le _, rfl⟩
              case round =>
                obtain ⟨h, hh, rfl⟩ := hrel
                by_cases hl2 : h < r + 1
                · have hg := HG.out h hl2
                  have cI := H9.out.is.cell h (bools_cell H9.out.il hl2)
                  have cH := H9.out.hs.cell h (ints_cell H9.out.hl hl2)
                  obtain ⟨y, hy⟩ : ∃ y, H'.getD h 0 = y := ⟨_, rfl⟩
                  rw [hy] at hg cH
                  have hyn : (y != y) = false := by simp
                  cases hI : I'.getD h false
                  all_goals
                    rw [hI] at hg cI
                    have HG1 := Lib.hid hg
                    clear hg hI hy
                    go_wp2_with fail
                    refine (HG1.out).mono ?_
                    rintro e w9 ⟨rfl, rfl⟩
                    go_wp2
                    go_round
                    case rel => exact ⟨h + 1, by omega, by go_num⟩
                    case measure => simp [intOf]; omega
                · go_wp2
                  go_roundg (l.length - (j + 1))
                  case measure => have := HGK.out; omega
                  case rel => exact ⟨j + 1, _, _, _, _, _, by omega, by go_num, rfl, H9.out, T9.out⟩
      · obtain rfl : j = l.length := by omega
        clear hgk hmi hmb hK0
        have hlv := Lib.hid (HLV.out wr hb.out.2)
        go_wp2_with fail
        refine (hlv.out).mono ?_
        rintro e w2 ⟨rfl, hk2⟩
        go_wp2
        go_ret
        exact ⟨rfl, hk2⟩

end Go.Proofs.Ytoiiofcpohoeaaa
