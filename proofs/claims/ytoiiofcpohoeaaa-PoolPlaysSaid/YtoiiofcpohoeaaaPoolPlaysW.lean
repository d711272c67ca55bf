/- The law PoolPlays, walked. -/
import Derived.Test.YtoiiofcpohoeaaaPoolS
import Derived.Deep.DeepCutAuto
namespace Go.Proofs.Ytoiiofcpohoeaaa
open Go.RowKit poolInt
set_option linter.unusedVariables false

def enAct7 (a : Nat × Int × Int) : List Value := [.int .u8 a.1, .int .i64 a.2.1, .int .i64 a.2.2]
theorem enAct7_len (a : Nat × Int × Int) : (enAct7 a).length = 3 := rfl

def hdL (l : List Int) : Int × Bool := match l with | [] => (0, false) | h :: _ => (h, true)
theorem Rel.headq {S : PS Int} {R : RP Int} (h : Rel S R) (q : Int) : poolInt.headq S q = hdL (R.q q) := by
  by_cases h1 : 0 ≤ q ∧ q < S.qs.length
  · obtain ⟨j, rfl⟩ : ∃ j : Nat, q = j := ⟨q.toNat, by omega⟩
    have hj : j < S.qs.length := by omega
    obtain ⟨hd, tl, hq⟩ : ∃ hd tl, S.qs[j]? = some (hd, tl) := ⟨_, _, (List.getElem?_eq_some_iff.2 ⟨hj, rfl⟩)⟩
    have hdd : hdq S j = hd := by unfold hdq; rw [if_pos h1]; simp [hq]
    have hc := (h.queue j hd tl hq).1
    cases hl : R.q j with
    | nil =>
      rw [hl] at hc
      have : hd = -1 := hc
      rw [headq_none (by rw [hdd]; exact this)]; rfl
    | cons a r =>
      rw [hl] at hc
      obtain ⟨rfl, h0, _⟩ := hc
      rw [headq_some (by rw [hdd]; omega), hdd]; rfl
  · rw [h.q_out h1]
    have : hdq S q = -1 := by unfold hdq; rw [if_neg h1]
    rw [headq_none this]; rfl

theorem bQueue {B0 : Nat} {w : World} {p bq m : Nat} {vc vi vn vb : Value} {S : PS Int} {R : RP Int} {k : Nat} (h : Both B0 w p bq m vc vi vn vb S R k) (hk : k ≤ 1000000) (q : Int) :
    Calls Try.prog 16 #[.pointer (some ⟨p, 0, none⟩), .int .i64 q] w fun e w' => ∃ v, e = .returned v ∧ w'.ownsRow w.heap.size 3 1 v (R.q q).length (ints (R.q q)) ∧ Kp none' w w' := by
  have hlen : (R.q q).length ≤ 1000000 := by
    unfold RP.q; rw [List.length_map]
    have := List.length_filter_le (fun p : Int × Int => p.1 == q) R.inn
    have := h.inn; omega
  have hlt : ∀ b, PF p bq vc b → b < w.heap.size := fun b hb => (h.lt (.inl hb)).2
  by_cases h1 : 0 ≤ q ∧ q < S.qs.length
  · obtain ⟨j, rfl⟩ : ∃ j : Nat, q = j := ⟨q.toNat, by omega⟩
    exact pQueue _ _ _ _ hlen (wWalk w B0 p bq vc S R h.pm h.rel j (by omega) h.qs)
  · have e := h.rel.q_out h1
    rw [e]
    refine pQueue _ _ _ _ (by simp) (wNone _ _ _ (fun W hk => ?_))
    have hold : Kp none' w (qw w (some ⟨p, 0, none⟩) q) := (((Kp.refl _ _).alloc _).alloc _).alloc _
    have hpm : PMem W B0 p bq vc S := (h.pm.old hold).kp hk (fun b hb hs => by have := hlt b hb; rcases hs with hs | hs <;> omega)
    have hh := pHas W B0 p bq vc S hpm q h.qs
    have ht : hasq S.qs.length q = false := by simp [hasq]; omega
    rw [ht] at hh
    exact hh

theorem start {w : World} {p bq : Nat} {most : Int} {n : Nat} {w1 : World} (h : PMem w1 w.heap.size p bq (.slice none 0 0) ⟨[], List.replicate n (-1, -1), most, -1, 0⟩) (hk : Kp none' w w1) (h1 : 1 ≤ most) (h2 : most ≤ 4096) (h3 : n ≤ 262144) :
    Both w.heap.size (w1.alloc (.cells #[.int .i64 most, .int .i64 n, .slice none 0 0, .slice none 0 0, .slice none 0 0, .int .i64 0] 34)) p bq w1.heap.size (.slice none 0 0) (.slice none 0 0) (.slice none 0 0) (.slice none 0 0) ⟨[], List.replicate n (-1, -1), most, -1, 0⟩ ⟨most, n, [], [], [], 0⟩ 0 := by
  refine ⟨h.old ((Kp.refl _ _).alloc _), ⟨Blk.new _ [_, _, _, _, _, _] _, World.ownsRow_nil _ _ _ _, World.ownsRow_nil _ _ _ _, World.ownsRow_nil _ _ _ _, hk.size⟩, ?_, by simpa using h3, Nat.le_refl _, by have := hk.size; simp; omega⟩
  have ht : ∀ i, tk (⟨[], List.replicate n (-1, -1), most, -1, 0⟩ : PS Int) i = none := fun i => by unfold tk; split <;> simp
  exact { most := rfl, most1 := ⟨h1, h2⟩, queues := by simp, never := rfl, room := by simp; omega, count := rfl, n := rfl,
          find := fun i => by rw [ht]; rfl, inodup := by simp, irange := by simp, free := rfl, bnodup := by simp, brange := by simp,
          queue := fun q hd tl hq => by
            have := List.mem_of_getElem? hq
            rw [List.mem_replicate] at this
            obtain ⟨_, e⟩ := this
            cases e
            exact ⟨rfl, rfl⟩
          qnodup := by simp, qrange := by simp, queued := fun i c hc => (by rw [ht] at hc; simp at hc), qtaken := by simp }

/-- What Get and Find answer. -/
def GetS (B0 : Nat) (w : World) (p bq m : Nat) (vc vi vn vb : Value) (S : PS Int) (R : RP Int) (x : Int) : Prop :=
  ∃ (gy : Int) (gb : Bool) (gk : Int), Calls Try.prog 11 #[.pointer (some ⟨p, 0, none⟩), .int .i64 x] w (fun e w' => e = .returned (.tuple #[.int .i64 gy, .bool gb]) ∧ w = w') ∧ posL (R.items.map (·.1)) x = gk ∧
    ((∃ (k : Nat) (g cap : Nat), gk = k ∧ gb = true ∧ vi = .slice (some ⟨g, 0, none⟩) R.items.length cap ∧ k < R.items.length ∧ w.cell? ⟨g, k * 2 + 1, none⟩ = some (.int .i64 gy)) ∨ (gk = -1 ∧ gb = false ∧ gy = 0))
theorem GetS.mk' {B0 : Nat} {w : World} {p bq m : Nat} {vc vi vn vb : Value} {S : PS Int} {R : RP Int} {k : Nat} (h : Both B0 w p bq m vc vi vn vb S R k) (x : Int) : GetS B0 w p bq m vc vi vn vb S R x := by
  have hg := poolInt.pGet w B0 p bq vc S h.pm x h.rel.len
  by_cases hm : x ∈ R.items.map (·.1)
  · obtain ⟨k, hk, hkl, hkx⟩ := posL_get hm
    have hkl' : k < R.items.length := by simpa using hkl
    obtain ⟨y, hy⟩ : ∃ y, R.items[k]? = some y := ⟨_, List.getElem?_eq_some_iff.2 ⟨hkl', rfl⟩⟩
    have hyk : R.items[k] = y := (List.getElem?_eq_some_iff.1 hy).2
    have hy1 : y.1 = x := by rw [← hyk]; simpa using hkx
    have hf : R.find x = some y.2 := by
      refine mem_find h.rel.inodup ?_
      rw [← hy1, ← hyk]; exact List.getElem_mem hkl'
    have ht := h.rel.find x
    rw [hf] at ht
    obtain ⟨c, hc, hcx⟩ := Option.map_eq_some_iff.1 ht
    rw [hc] at hg
    simp only [Option.map_some, Option.getD_some, Option.isSome_some, hcx] at hg
    obtain ⟨g, cap, e, _, cy1⟩ := pair_get h.rm.items k y hy
    exact ⟨y.2, true, k, hg, hk, .inl ⟨k, g, cap, rfl, rfl, e, hkl', cy1⟩⟩
  · have hf := (find_pos R x).2 hm
    have ht := h.rel.find x
    rw [hf] at ht
    have hn : tk S x = none := by
      cases e : tk S x with
      | none => rfl
      | some c => rw [e] at ht; cases ht
    rw [hn] at hg
    exact ⟨0, false, -1, hg, posL_no hm, .inr ⟨rfl, rfl, rfl⟩⟩

set_option maxRecDepth 100000 in
set_option maxHeartbeats 4000000 in
theorem plays07 (most queues : Int) (l : List (Nat × Int × Int)) (v : Value) (w : World) (hl : Sl w v l.length 3 (l.flatMap enAct7)) (hok : ∀ a ∈ l, okAct7 a) :
    Calls Try.prog 3 #[.int .i64 most, .int .i64 queues, v] w fun e w' => e = .returned (.bool true) ∧ Kp none' w w' := by
  have hm := hl.max
  have hlive : ∀ W, Kp none' w W → Calls Try.prog 6 #[] W fun e w' => e = .returned (.bool true) ∧ Kp none' w w' := fun W k => (pLives W).mono fun e w' ⟨h1, h2⟩ => ⟨h1, k.trans h2⟩
  have HLV := Lib.hid hlive
  clear hlive
  by_cases hA : (1000 < queues ∧ queues ≤ 262144) ∨ 150 < l.length
  · obtain ⟨ao, cap, rfl, _⟩ := hl.is
    clear hl hok
    by_cases q1 : 1000 < queues
    · by_cases q2 : queues ≤ 262144
      · clear hA
        go_enter Try.func3, Try.ntmps3
        go_wp2_with (go_at_call 6; refine (HLV.out _ (Kp.refl _ _)).mono ?_; rintro e w2 ⟨rfl, hk2⟩)
        go_ret
        exact ⟨rfl, hk2⟩
      · have q3 : 150 < l.length := by omega
        clear hA
        go_enter Try.func3, Try.ntmps3
        go_wp2_with (go_at_call 6; refine (HLV.out _ (Kp.refl _ _)).mono ?_; rintro e w2 ⟨rfl, hk2⟩)
        go_ret
        exact ⟨rfl, hk2⟩
    · have q3 : 150 < l.length := by omega
      clear hA
      go_enter Try.func3, Try.ntmps3
      go_wp2_with (go_at_call 6; refine (HLV.out _ (Kp.refl _ _)).mono ?_; rintro e w2 ⟨rfl, hk2⟩)
      go_ret
      exact ⟨rfl, hk2⟩
  · have hlen : l.length ≤ 150 := by omega
    have hqq : ¬ 1000 < queues ∨ (1000 < queues ∧ 262144 < queues) := by omega
    by_cases hmay : 1 ≤ most ∧ most ≤ 4096 ∧ 0 ≤ queues ∧ queues ≤ 262144
    · have q1 : ¬ 1000 < queues := by omega
      obtain ⟨n, rfl⟩ : ∃ n : Nat, queues = n := ⟨queues.toNat, by omega⟩
      obtain ⟨m1, m2, m3, m4⟩ := hmay
      have hN := Lib.hid (poolInt.pNew most n w m1 m2 (by omega))
      have hMay := fun W => rMay most n W
      have hdm : decide (1 ≤ most ∧ most ≤ 4096 ∧ 0 ≤ (n : Int) ∧ (n : Int) ≤ 262144) = true := by simp; omega
      simp only [hdm] at hMay
      have HMay := Lib.hid hMay
      clear hMay hdm hA hqq
      obtain ⟨ao, cap, hv, _⟩ := hl.is
      have HL := Lib.hid hl
      subst hv
      clear hl
      go_enter Try.func3, Try.ntmps3
      go_wp2_with fail
      refine (hN.out).mono ?_
      rintro e w1 ⟨p, bq, rfl, hp, hk1⟩
      have HB := Lib.hid (start hp hk1 m1 m2 (by omega))
      have HK := Lib.hid (hk1.alloc (.cells #[.int .i64 most, .int .i64 n, .slice none 0 0, .slice none 0 0, .slice none 0 0, .int .i64 0] 34))
      clear hp hk1
      go_wp2_with fail
      refine (HMay.out w1).mono ?_
      rintro e w' ⟨rfl, rfl⟩
      go_wp2
      go_loopg [67] l.length (fun g s67 wr => ∃ (j : Nat) (vc vi vn vb : Value) (S : PS Int) (R : RP Int), j ≤ l.length ∧ s67 = .int .i64 j ∧ g = l.length - j ∧ Hid (Both w.heap.size wr p bq w1.heap.size vc vi vn vb S R j ∧ Kp none' w wr))
      case atStart => exact ⟨0, _, _, _, _, _, _, Nat.zero_le _, rfl, rfl, HB.out, HK.out⟩
      case round =>
        obtain ⟨j, vc, vi, vn, vb, S, R, hj, rfl, hgk, hb⟩ := hrel
        by_cases hlt : j < l.length
        · obtain ⟨ab, off, cap', hv, hcell⟩ := HL.out.at enAct7_len (by decide) j hlt
          cases hv
          obtain ⟨a, ha⟩ : ∃ a, l[j] = a := ⟨_, rfl⟩
          rw [ha] at hcell
          have hoka := hok a (by rw [← ha]; exact List.getElem_mem hlt)
          obtain ⟨z, q, x⟩ := a
          have hkr := hb.out.2
          have e0 := hkr.cell (hcell 0 (.int .u8 z) rfl) id
          have e1 := hkr.cell (hcell 1 (.int .i64 q) rfl) id
          have e2 := hkr.cell (hcell 2 (.int .i64 x) rfl) id
          rw [Nat.add_zero] at e0
          have hz : z < 256 := hoka
          clear hcell ha hkr HB HK hoka
          have HGK := Lib.hid hgk; clear hgk
          obtain ⟨mm, hmm⟩ : ∃ mm, mm = w1.heap.size := ⟨_, rfl⟩
          rw [← hmm] at hb
          go_wp2_with fail
          rw [← hmm]
          have hx := hb.out.1.old ((Kp.refl _ _).alloc (.cells #[.int .u8 z, .int .i64 q, .int .i64 x] 36))
          have hkx := hb.out.2.alloc (.cells #[.int .u8 z, .int .i64 q, .int .i64 x] 36)
          have hbq : Blk (wr.alloc (.cells #[.int .u8 z, .int .i64 q, .int .i64 x] 36)) wr.heap.size [.int .u8 z, .int .i64 q, .int .i64 x] 36 := Blk.new _ _ _
          have hnq : ∀ b, BF p bq mm vc vi vn vb b → b ≠ wr.heap.size := fun b hf e => by have := (hb.out.1.lt hf).2; omega
          have HMM := Lib.hid hmm
          clear hb e0 e1 e2 hmm
          generalize wr.alloc (.cells #[.int .u8 z, .int .i64 q, .int .i64 x] 36) = wx at *
          generalize wr.heap.size = q0 at *
          have d0 := hbq.cell 0 rfl
          have d1 := hbq.cell 1 rfl
          have d2 := hbq.cell 2 rfl
          have HS := Lib.hid (fun (W : World) (K : Kp none' wx W) => sStep w.heap.size W p bq mm vc vi vn vb S R j (hx.old K) z q x hz (by omega))
          have HX := Lib.hid hx; have HKX := Lib.hid hkx; have HNQ := Lib.hid hnq
          clear hx hkx hbq hnq
          go_region_with (first
            | (go_at_call 9; refine (HS.out _ (by first | exact Kp.refl _ _ | exact (Kp.refl _ _).drew | exact (Kp.refl _ _).drewN _)).mono ?_; rintro e w3 ⟨rfl, s3⟩; obtain ⟨vc', vi', vn', vb', S', R', hb3, k3⟩ := s3; obtain ⟨io, icap, hvi⟩ := own_shape hb3.rm.items; subst hvi; have c2 := hb3.rm.top.cell 2 rfl; have hlen := pLen w3 w.heap.size p bq vc' S' hb3.pm; rw [hb3.rel.n] at hlen; have HLEN := Lib.hid hlen; have f1 := k3.cell (a := ⟨q0, 1, none⟩) d1 (fun hf => HNQ.out _ hf rfl); have f2 := k3.cell (a := ⟨q0, 2, none⟩) d2 (fun hf => HNQ.out _ hf rfl); have HB3 := Lib.hid hb3; have HK3 := Lib.hid k3; clear hb3 k3 hlen)
            | (go_at_call 10; refine (HLEN.out).mono ?_; rintro e w' ⟨rfl, rfl⟩))
          all_goals
            have hkw : Kp none' w w3 := (HKX.out.drew).then HK3.out (fun b hb hf => by have := (HX.out.lt hf).1; omega)
            have HKW := Lib.hid hkw
            have hG := GetS.mk' HB3.out x
            have hF := rFind w3 w.heap.size mm _ vn' vb' R' HB3.out.rm x HB3.out.rel.bnd.items
            have hQ := rQueue w3 w.heap.size mm _ vn' vb' R' HB3.out.rm q (by have := HB3.out.inn; omega)
            have hH := fun (W : World) (K : Kp none' w3 W) => pHead W w.heap.size p bq vc' S' (HB3.out.pm.old K) q HB3.out.qs HB3.out.rel.heads
            simp only [HB3.out.rel.headq q] at hH
            have hP := fun (W : World) (K : Kp none' w3 W) => bQueue (HB3.out.old K) (by omega) q
            obtain ⟨ql, hql⟩ : ∃ ql, R'.q q = ql := ⟨_, rfl⟩
            simp only [hql] at hQ hH hP
            have HQ := Lib.hid hQ; have HH := Lib.hid hH; have HP := Lib.hid hP
            clear hkw hQ hH hP hql HS HX HKX HNQ HK3 HLEN d0 d1 d2
            obtain ⟨gy, gb, gk2, hg1, hg2, hg3⟩ := hG
            rw [hg2] at hF
            have HG := Lib.hid hg1; have HF := Lib.hid hF
            clear hg1 hF hg2
            rcases hg3 with ⟨k, g1, gcap, rfl, rfl, hio, hki, ci⟩ | ⟨rfl, rfl, rfl⟩
            all_goals
              try (cases hio)
              cases ql with
              | nil =>
                go_wp2_with fail
                refine (HG.out).mono ?_
                rintro e w' ⟨rfl, rfl⟩
                go_wp2_with fail
                refine (HF.out).mono ?_
                rintro e w' ⟨rfl, rfl⟩
                go_wp2_with fail
                refine (HQ.out).mono ?_
                rintro e w4 ⟨vq, rfl, ho4, hk4⟩
                obtain ⟨qo, qcap, rfl⟩ := own_shape ho4
                have m2 := hk4.cell c2 id
                have y1 := hk4.cell f1 id
                have y2 := hk4.cell f2 id
                first
                  | (have ci4 := hk4.cell ci id)
                  | skip
                have HO4 := Lib.hid ho4; have HK4 := Lib.hid hk4
                clear ho4 hk4
                simp only [List.length_nil]
                go_wp2_with fail
                refine (HH.out w4 HK4.out).mono ?_
                rintro e w' ⟨rfl, rfl⟩
                simp only [hdL]
                go_wp2_with fail
                refine (HP.out w4 HK4.out).mono ?_
                rintro e w5 ⟨v5, rfl, ho5, hk5⟩
                have HO5 := Lib.hid ho5; have HK5 := Lib.hid hk5
                clear ho5 hk5
                go_wp2_with fail
                refine (r06Same _ _ v5 _ w5 (own_sl HO5.out) (own_sl (own_kp HO4.out HK5.out (fun _ _ h => h)))).mono ?_
                rintro e w6 ⟨rfl, hk6⟩
                have HK6 := Lib.hid ((HK4.out.trans HK5.out).trans hk6)
                clear hk6
                simp only [decide_true]
                go_wp2
                obtain rfl := HMM.out
                go_roundg (l.length - (j + 1))
                case measure => have := HGK.out; omega
                case rel => exact ⟨j + 1, _, _, _, _, _, _, by omega, by go_num, rfl, HB3.out.old HK6.out, HKW.out.trans HK6.out⟩
              | cons hy hr =>
                go_wp2_with fail
                refine (HG.out).mono ?_
                rintro e w' ⟨rfl, rfl⟩
                go_wp2_with fail
                refine (HF.out).mono ?_
                rintro e w' ⟨rfl, rfl⟩
                go_wp2_with fail
                refine (HQ.out).mono ?_
                rintro e w4 ⟨vq, rfl, ho4, hk4⟩
                obtain ⟨qg, qcap, rfl, _⟩ := own_shape1 ho4 (by simp)
                have cq := own_cell ho4 0 (u := .int .i64 hy) rfl
                have m2 := hk4.cell c2 id
                have y1 := hk4.cell f1 id
                have y2 := hk4.cell f2 id
                first
                  | (have ci4 := hk4.cell ci id)
                  | skip
                have HO4 := Lib.hid ho4; have HK4 := Lib.hid hk4
                clear ho4 hk4
                simp only [List.length_cons] at cq ⊢
                go_wp2_with fail
                refine (HH.out w4 HK4.out).mono ?_
                rintro e w' ⟨rfl, rfl⟩
                simp only [hdL]
                go_wp2_with fail
                refine (HP.out w4 HK4.out).mono ?_
                rintro e w5 ⟨v5, rfl, ho5, hk5⟩
                have HO5 := Lib.hid ho5; have HK5 := Lib.hid hk5
                clear ho5 hk5
                go_wp2_with fail
                refine (r06Same _ _ v5 _ w5 (own_sl HO5.out) (own_sl (own_kp HO4.out HK5.out (fun _ _ h => h)))).mono ?_
                rintro e w6 ⟨rfl, hk6⟩
                have HK6 := Lib.hid ((HK4.out.trans HK5.out).trans hk6)
                clear hk6
                simp only [decide_true]
                go_wp2
                obtain rfl := HMM.out
                go_roundg (l.length - (j + 1))
                case measure => have := HGK.out; omega
                case rel => exact ⟨j + 1, _, _, _, _, _, _, by omega, by go_num, rfl, HB3.out.old HK6.out, HKW.out.trans HK6.out⟩
        · obtain rfl : j = l.length := by omega
          clear HB HK hgk
          have hlv := Lib.hid (HLV.out wr hb.out.2)
          go_wp2_with fail
          refine (hlv.out).mono ?_
          rintro e w2 ⟨rfl, hk2⟩
          go_wp2
          go_ret
          exact ⟨rfl, hk2⟩
    · have hN := Lib.hid (poolInt.pNewNo most queues w hmay)
      have hMay := fun W => rMay most queues W
      have hdm : decide (1 ≤ most ∧ most ≤ 4096 ∧ 0 ≤ queues ∧ queues ≤ 262144) = false := by simpa using hmay
      simp only [hdm] at hMay
      have HMay := Lib.hid hMay
      obtain ⟨ao, cap, rfl, _⟩ := hl.is
      clear hMay hdm hA hmay hl hok
      rcases hqq with q1 | ⟨q1, q2⟩
      all_goals
        go_enter Try.func3, Try.ntmps3
        go_wp2_with fail
        refine (hN.out).mono ?_
        rintro e w' ⟨rfl, rfl⟩
        go_wp2_with fail
        refine (HMay.out w).mono ?_
        rintro e w' ⟨rfl, rfl⟩
        go_wp2_with (go_at_call 6; refine (HLV.out _ (Kp.refl _ _)).mono ?_; rintro e w2 ⟨rfl, hk2⟩)
        go_ret
        exact ⟨rfl, hk2⟩

end Go.Proofs.Ytoiiofcpohoeaaa
