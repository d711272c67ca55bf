/- What Put, Drop, From, New and All of package ffs compute. -/
import Derived.Test.YtoiiofcpohoeaaaDoorFfsW
namespace Go.Proofs.YtoiiofcpohoeaaaDoor
open Go.RowKit

def Fp (p bl : Nat) (B : Nat → Nat) (k : Nat) : Nat → Prop := fun b => b = p ∨ b = bl ∨ ∃ j, j < k ∧ b = B j

theorem wrap_pow (b : Nat) (hb : b < 64) : IntKind.u64.wrap ((2 : Int) ^ b) = ((2 ^ b : Nat) : Int) := by
  have h : 2 ^ b < 2 ^ 64 := Nat.pow_lt_pow_right (by decide) hb
  rw [IntKind.wrap_u64]
  have e : (2 : Int) ^ b = ((2 ^ b : Nat) : Int) := by simp
  rw [e]
  generalize 2 ^ b = y at *
  omega
theorem or_bit (x b : Nat) (hx : x < 18446744073709551616) (hb : b < 64) : bits BinOp.or IntKind.u64 (x : Int) (IntKind.u64.wrap ((2 : Int) ^ b)) = ((x ||| 2 ^ b : Nat) : Int) := by
  rw [wrap_pow b hb]
  exact bits_or_u64_nat x _ hx (Nat.pow_lt_pow_right (n := 64) (by decide) hb)

theorem FSet.kp {S : Nat → Prop} {w w' : World} {p k bl : Nat} {B : Nat → Nat} {L : Lv} {n : Int} (h : FSet w p k bl B L n) (K : Kp S w w') (hs : ∀ b, Fp p bl B k b → ¬ S b) : FSet w' p k bl B L n :=
  ⟨by obtain ⟨c, h⟩ := h.top; exact ⟨c, h.kp K (hs _ (.inl rfl))⟩, by obtain ⟨c, h⟩ := h.lv; exact ⟨c, h.kp K (hs _ (.inr (.inl rfl)))⟩, fun j hj => (h.wd j hj).kp K (hs _ (.inr (.inr ⟨j, hj, rfl⟩)))⟩
theorem FSet.old {w w' : World} {p k bl : Nat} {B : Nat → Nat} {L : Lv} {n : Int} (h : FSet w p k bl B L n) (K : Kp none' w w') : FSet w' p k bl B L n := h.kp K (fun _ _ h => h)
theorem FSet.lt {w : World} {p k bl : Nat} {B : Nat → Nat} {L : Lv} {n : Int} (h : FSet w p k bl B L n) {b : Nat} (hb : Fp p bl B k b) : b < w.heap.size := by
  rcases hb with rfl | rfl | ⟨j, hj, rfl⟩
  · obtain ⟨c, h⟩ := h.top; exact h.lt
  · obtain ⟨c, h⟩ := h.lv; exact h.lt
  · exact (h.wd j hj).lt
theorem pow_inj (i j : Nat) (h : 64 ^ i = 64 ^ j) : i = j := by
  rcases Nat.lt_trichotomy i j with h1 | h1 | h1
  · have := Nat.pow_lt_pow_right (a := 64) (by decide) h1; omega
  · exact h1
  · have := Nat.pow_lt_pow_right (a := 64) (by decide) h1; omega
theorem FSet.ne {w : World} {p k bl : Nat} {B : Nat → Nat} {L : Lv} {n : Int} (h : FSet w p k bl B L n) (hlen : ∀ j, j < k → (L j).length = 64 ^ j) :
    p ≠ bl ∧ (∀ j, j < k → B j ≠ p ∧ B j ≠ bl) ∧ ∀ i j, i < k → j < k → i ≠ j → B i ≠ B j := by
  obtain ⟨c, h0⟩ := h.top
  obtain ⟨r, h1⟩ := h.lv
  refine ⟨?_, fun j hj => ⟨?_, ?_⟩, fun i j hi hj hne => ?_⟩
  · rintro rfl; have := (h0.inj h1).2; simp at this
  · rintro rfl; have := (h0.inj (h.wd j hj)).2; simp at this
  · rintro rfl; have := (h1.inj (h.wd j hj)).2; simp at this
  · intro e
    have h2 := h.wd i hi
    rw [e] at h2
    have := congrArg List.length (h2.inj (h.wd j hj)).1
    simp only [Go.Proofs.YtoiiofcpohoeaaaDoor.wd, List.length_map, hlen i hi, hlen j hj] at this
    exact hne (pow_inj _ _ this)
theorem FSet.setN {w : World} {p k bl : Nat} {B : Nat → Nat} {L : Lv} {n : Int} (h : FSet w p k bl B L n) (hlen : ∀ j, j < k → (L j).length = 64 ^ j) (n' : Int) : FSet (w.setCell ⟨p, 1, none⟩ (.int .i64 n')) p k bl B L n' := by
  obtain ⟨e1, e2, _⟩ := h.ne hlen
  refine ⟨?_, ?_, fun j hj => (h.wd j hj).setNe (e2 j hj).1 _⟩
  · obtain ⟨c, h⟩ := h.top; exact ⟨c, h.set 1 _⟩
  · obtain ⟨c, h⟩ := h.lv; exact ⟨c, h.setNe (fun e => e1 e.symm) _⟩
theorem FSet.setW {w : World} {p k bl : Nat} {B : Nat → Nat} {L : Lv} {n : Int} (h : FSet w p k bl B L n) (hlen : ∀ j, j < k → (L j).length = 64 ^ j) (l i x : Nat) (hl : l < k) :
    FSet (w.setCell ⟨B l, i, none⟩ (.int .u64 x)) p k bl B (upd L l ((L l).set i x)) n := by
  obtain ⟨e1, e2, e3⟩ := h.ne hlen
  refine ⟨?_, ?_, fun j hj => ?_⟩
  · obtain ⟨c, h⟩ := h.top; exact ⟨c, h.setNe (fun e => (e2 l hl).1 e.symm) _⟩
  · obtain ⟨c, h⟩ := h.lv
    refine ⟨c, ?_⟩
    have e : (List.range k).map (fun j => Value.slice (some ⟨B j, 0, none⟩) (upd L l ((L l).set i x) j).length (upd L l ((L l).set i x) j).length) = (List.range k).map (fun j => Value.slice (some ⟨B j, 0, none⟩) (L j).length (L j).length) := by
      apply List.map_congr_left
      intro j _
      unfold upd; split
      · rename_i e; subst e; simp
      · rfl
    rw [e]
    exact h.setNe (fun e => (e2 l hl).2 e.symm) _
  · by_cases e : j = l
    · subst e
      simp only [upd, if_true]
      rw [← wd_set]
      exact (h.wd j hj).set i _
    · simp only [upd, if_neg e]
      exact (h.wd j hj).setNe (e3 j l hj hl e) _


theorem Ok.size {k : Nat} {L : Lv} {m : List Int} (ok : Ok k L m) : 64 * (L (k - 1)).length = 64 ^ k := by
  have := ok.k1
  rw [ok.len _ (by omega), ← Nat.pow_succ']; congr 1; omega

set_option maxHeartbeats 1000000 in
theorem fPutNo (p k bl : Nat) (B : Nat → Nat) (L : Lv) (n i : Int) (m : List Int) (w : World) (h : FSet w p k bl B L n) (ok : Ok k L m) (k3 : k ≤ 3) (hno : ¬ (0 ≤ i ∧ i < ((64 ^ k : Nat) : Int)) ∨ i ∈ m) :
    Calls Tryd.prog 12 #[.pointer (some ⟨p, 0, none⟩), .int .i64 i] w fun e w' => e = .returned (.bool false) ∧ Kp none' w w' := by
  have k1 := ok.k1
  have hlast : (L (k - 1)).length ≤ 4096 := ok.le k3 _ (by omega)
  have hsz := fun (w' : World) (hkp : Kp none' w w') => fSize p k bl B L n w' (h.old hkp) k1 k3 hlast
  have hhas := fun (w' : World) (hkp : Kp none' w w') => fHas p k bl B L n i w' (h.old hkp) k1 k3 hlast (ok.rng _ (by omega))
  have hs := ok.size
  by_cases h1 : i < 0
  · clear h ok hsz hhas hno
    go_enter Tryd.func12, Tryd.ntmps12
    go_wp2
    go_ret
    exact ⟨rfl, Kp.refl _ _⟩
  · obtain ⟨z, rfl⟩ : ∃ z : Nat, i = z := ⟨i.toNat, by omega⟩
    by_cases h2 : z < 64 ^ k
    · have hz : (z : Int) ∈ m := by rcases hno with h | h; (exact absurd ⟨by omega, by omega⟩ h); exact h
      have hb : bitAt (L (k - 1)) z = true := by rw [ok.leaf z h2]; simpa using hz
      have hv : (decide (0 ≤ (z : Int) ∧ (z : Int) < 64 * (L (k - 1)).length) && bitAt (L (k - 1)) (z : Int).toNat) = true := by simp [hb]; omega
      simp only [hv] at hhas
      have hin : z < 64 * (L (k - 1)).length := by omega
      have HS := Lib.hid hsz; have HH := Lib.hid hhas
      generalize (L (k - 1)).length = N at *
      clear h ok hsz hhas hno hb hv hs hz
      go_enter Tryd.func12, Tryd.ntmps12
      go_wp2_with fail
      refine (HS.out _ (Kp.refl _ _)).mono ?_
      rintro e w1 ⟨rfl, hk1⟩
      go_wp2_with fail
      refine (HH.out _ hk1).mono ?_
      rintro e w2 ⟨rfl, hk2⟩
      go_wp2
      go_ret
      exact ⟨rfl, hk1.trans hk2⟩
    · have hin : ¬ z < 64 * (L (k - 1)).length := by omega
      have HS := Lib.hid hsz
      generalize (L (k - 1)).length = N at *
      clear h ok hsz hhas hno hs h2
      go_enter Tryd.func12, Tryd.ntmps12
      go_wp2_with fail
      refine (HS.out _ (Kp.refl _ _)).mono ?_
      rintro e w1 ⟨rfl, hk1⟩
      go_wp2
      go_ret
      exact ⟨rfl, hk1⟩

set_option maxHeartbeats 2000000 in
theorem fPut (p k bl : Nat) (B : Nat → Nat) (L : Lv) (n : Int) (i : Nat) (m : List Int) (w : World) (h : FSet w p k bl B L n) (ok : Ok k L m) (k3 : k ≤ 3) (hi : i < 64 ^ k) (hm : (i : Int) ∉ m) (hn : 0 ≤ n ∧ n ≤ 1000000) :
    Calls Tryd.prog 12 #[.pointer (some ⟨p, 0, none⟩), .int .i64 i] w fun e w' => e = .returned (.bool true) ∧ FSet w' p k bl B (putUp L k i) (n + 1) ∧ Kp (Fp p bl B k) w w' := by
  have k1 := ok.k1
  have hlast : (L (k - 1)).length ≤ 4096 := ok.le k3 _ (by omega)
  have hsz := fun (w' : World) (hkp : Kp none' w w') => fSize p k bl B L n w' (h.old hkp) k1 k3 hlast
  have hhas := fun (w' : World) (hkp : Kp none' w w') => fHas p k bl B L n i w' (h.old hkp) k1 k3 hlast (ok.rng _ (by omega))
  have hin : i < 64 * (L (k - 1)).length := by rw [ok.size]; exact hi
  have hb : bitAt (L (k - 1)) i = false := by rw [ok.leaf i hi]; simpa using hm
  have hv : (decide (0 ≤ (i : Int) ∧ (i : Int) < 64 * (L (k - 1)).length) && bitAt (L (k - 1)) (i : Int).toNat) = false := by simp [hb]
  simp only [hv] at hhas
  have HS := Lib.hid hsz
  have HH := Lib.hid hhas
  clear hsz hhas hv
  have H := Lib.hid h
  generalize hN : (L (k - 1)).length = N at *
  clear h
  go_enter Tryd.func12, Tryd.ntmps12
  go_wp2_with fail
  refine (HS.out _ (Kp.refl _ _)).mono ?_
  rintro e w1 ⟨rfl, hk1⟩
  go_wp2_with fail
  refine (HH.out _ hk1).mono ?_
  rintro e w2 ⟨rfl, hk2⟩
  have h2 := (H.out.old hk1).old hk2
  obtain ⟨cap, c0⟩ := h2.c0
  have c1 := h2.c1
  have hp : p < w2.heap.size := h2.lt (.inl rfl)
  have fz : ∀ o, w2.frozen? ⟨p, o, none⟩ = false := by obtain ⟨c, h⟩ := h2.top; exact fun o => h.fz o
  have h3 := h2.setN ok.len (n + 1)
  obtain ⟨cap3, c03⟩ := h3.c0
  have fz0 := fz 1
  have H2 := Lib.hid h2
  have H3 := Lib.hid h3
  have hkS : Kp (Fp p bl B k) w (w2.setCell ⟨p, 1, none⟩ (.int .i64 (n + 1))) := ((hk1.trans hk2).mono (fun _ _ h => h.elim)).set (.inl (.inl rfl)) _
  have hst : Hid (∃ q : Int, (k : Int) - 1 = q) := ⟨_, rfl⟩
  clear h2 h3 fz hk1 hk2 H HS HH
  go_wp2
  go_loopw [1, 5] (fun s1 s5 wr => ∃ (l : Nat) (Lc : Lv) (ic : Nat) (q : Int), l ≤ k ∧ s5 = .int .i64 q ∧ q = (l : Int) - 1 ∧ s1 = .int .i64 ic ∧ ic < 64 ^ l ∧ Hid (putUp Lc l ic = putUp L k i) ∧ Hid (∀ j, j < k → (Lc j).length = 64 ^ j) ∧ Hid (∀ j, j < k → ∀ x ∈ Lc j, x < 18446744073709551616) ∧ Hid (FSet wr p k bl B Lc (n + 1)) ∧ Hid (Kp (Fp p bl B k) w wr)) (fun _ s5 _ => (intOf s5 + 1).toNat)
  case atStart => exact ⟨k, L, i, _, Nat.le_refl _, rfl, rfl, rfl, hi, rfl, ok.len, ok.rng, H3.out, hkS⟩
  case round =>
    obtain ⟨l, Lc, ic, q, hl, rfl, hq, rfl, hic, hpu, hlen, hrng, hf, hkp⟩ := hrel
    cases l with
    | zero =>
      obtain rfl : q = -1 := by omega
      clear hq
      go_wp2
      go_ret
      exact ⟨rfl, by rw [← hpu.out]; exact hf.out, hkp.out⟩
    | succ l =>
      obtain rfl : q = (l : Int) := by omega
      clear hq
      have hll : (Lc l).length = 64 ^ l := hlen.out l (by omega)
      have hz : ic / 64 < (Lc l).length := by rw [hll]; rw [Nat.pow_succ] at hic; omega
      obtain ⟨capr, d0⟩ := hf.out.c0
      have dl := hf.out.cl l (by omega)
      have dw := hf.out.cw l (ic / 64) (by omega) hz
      have fw : wr.frozen? ⟨B l, ic / 64, none⟩ = false := (hf.out.wd l (by omega)).fz _
      have hx := getD_rng (Lc l) (ic / 64) (hrng.out l (by omega))
      have hlc : (Lc l).length ≤ 4096 := by rw [hll]; exact pow64 l (by omega)
      have hicb : ic < 64 * (Lc l).length := by omega
      have hset := hf.out.setW hlen.out l (ic / 64) ((Lc l).getD (ic / 64) 0 ||| 2 ^ (ic % 64)) (by omega)
      have hkp2 := hkp.out.set (p := ⟨B l, ic / 64, none⟩) (.inl (.inr (.inr ⟨l, by omega, rfl⟩))) (.int .u64 ((Lc l).getD (ic / 64) 0 ||| 2 ^ (ic % 64) : Nat))
      have hpu2 : Hid (putUp (upd Lc l ((Lc l).set (ic / 64) ((Lc l).getD (ic / 64) 0 ||| 2 ^ (ic % 64)))) l (ic / 64) = putUp L k i) := hpu.out
      have hlen2 : Hid (∀ j, j < k → (upd Lc l ((Lc l).set (ic / 64) ((Lc l).getD (ic / 64) 0 ||| 2 ^ (ic % 64))) j).length = 64 ^ j) := fun j hj => by
        unfold upd; split
        · rename_i e; subst e; rw [List.length_set]; exact hlen.out j hj
        · exact hlen.out j hj
      have hrng2 : Hid (∀ j, j < k → ∀ x ∈ upd Lc l ((Lc l).set (ic / 64) ((Lc l).getD (ic / 64) 0 ||| 2 ^ (ic % 64))) j, x < 18446744073709551616) := fun j hj => by
        unfold upd; split
        · rename_i e; subst e; exact setB_rng _ _ (hrng.out j hj)
        · exact hrng.out j hj
      have HSET := Lib.hid hset; clear hset
      have HLL := Lib.hid hll; clear hll
      have hor := or_bit _ (ic % 64) hx (Nat.mod_lt _ (by decide))
      have hic2 : ic / 64 < 64 ^ l := by rw [Nat.pow_succ] at hic; omega
      have HKP := Lib.hid hkp2; clear hkp2
      have HOR := Lib.hid hor; clear hor
      generalize (Lc l).getD (ic / 64) 0 = x at *
      clear hpu hlen hrng hf hkp
      go_wp2
      go_region
      rw [HOR.out]
      have HSET2 := HSET.out
      have HKP2 := HKP.out
      generalize wr.setCell ⟨B l, ic / 64, none⟩ (.int .u64 (x ||| 2 ^ (ic % 64) : Nat)) = wn at *
      replace HSET := Lib.hid HSET2
      replace HKP := Lib.hid HKP2
      clear HSET2 HKP2
      go_wp2
      go_roundw
      case rel => exact ⟨l, _, ic / 64, _, by omega, rfl, rfl, by go_num, hic2, hpu2, hlen2, hrng2, HSET.out.kp (Kp.refl none' _).drew (fun _ _ h => h), HKP.out.drew⟩
      case measure => simp [intOf]

set_option maxHeartbeats 1000000 in
theorem fDropNo (p k bl : Nat) (B : Nat → Nat) (L : Lv) (n i : Int) (m : List Int) (w : World) (h : FSet w p k bl B L n) (ok : Ok k L m) (k3 : k ≤ 3) (hno : i ∉ m) :
    Calls Tryd.prog 10 #[.pointer (some ⟨p, 0, none⟩), .int .i64 i] w fun e w' => e = .returned (.bool false) ∧ Kp none' w w' := by
  have k1 := ok.k1
  have hlast : (L (k - 1)).length ≤ 4096 := ok.le k3 _ (by omega)
  have hhas := fHas p k bl B L n i w h k1 k3 hlast (ok.rng _ (by omega))
  have hv : (decide (0 ≤ i ∧ i < 64 * (L (k - 1)).length) && bitAt (L (k - 1)) i.toNat) = false := by
    by_cases hi : 0 ≤ i ∧ i < 64 * (L (k - 1)).length
    · have hs := ok.size
      rw [ok.leaf i.toNat (by omega)]
      have : ((i.toNat : Nat) : Int) = i := by omega
      simp [this, hno]
    · simp [hi]
  rw [hv] at hhas
  clear h ok hv
  go_enter Tryd.func10, Tryd.ntmps10
  go_wp2_with fail
  refine hhas.mono ?_
  rintro e w1 ⟨rfl, hk1⟩
  go_wp2
  go_ret
  exact ⟨rfl, hk1⟩

theorem andNot_bit (x b : Nat) (hx : x < 18446744073709551616) (hb : b < 64) : bits BinOp.andNot IntKind.u64 (x : Int) (IntKind.u64.wrap ((2 : Int) ^ b)) = ((clrW x b : Nat) : Int) := by
  have h2 : 2 ^ b < 2 ^ 64 := Nat.pow_lt_pow_right (by decide) hb
  rw [wrap_pow b hb, u64_andNot_nat x _ hx h2]
  congr 1
  apply Nat.eq_of_testBit_eq
  intro j
  have e : 18446744073709551615 - 2 ^ b = 2 ^ 64 - (2 ^ b + 1) := by omega
  rw [Nat.testBit_and, clrW_bit, e, Nat.testBit_two_pow_sub_succ h2, Nat.testBit_two_pow]
  cases hj : x.testBit j
  · rfl
  · have := bit_lt x j hx hj
    by_cases hbj : b = j
    · subst hbj; simp
    · have : j ≠ b := fun e => hbj e.symm
      simp [*]
theorem dropUp_succ (L : Lv) (l i : Nat) : dropUp L (l + 1) i = if (upd L l (clrB (L l) i) l).getD (i / 64) 0 ≠ 0 then upd L l (clrB (L l) i) else dropUp (upd L l (clrB (L l) i)) l (i / 64) := rfl

set_option maxHeartbeats 2000000 in
theorem fDrop (p k bl : Nat) (B : Nat → Nat) (L : Lv) (n : Int) (i : Nat) (m : List Int) (w : World) (h : FSet w p k bl B L n) (ok : Ok k L m) (k3 : k ≤ 3) (hm : (i : Int) ∈ m) (hn : 0 ≤ n ∧ n ≤ 1000000) :
    Calls Tryd.prog 10 #[.pointer (some ⟨p, 0, none⟩), .int .i64 i] w fun e w' => e = .returned (.bool true) ∧ FSet w' p k bl B (dropUp L k i) (n - 1) ∧ Kp (Fp p bl B k) w w' := by
  have k1 := ok.k1
  have hlast : (L (k - 1)).length ≤ 4096 := ok.le k3 _ (by omega)
  have hhas := fHas p k bl B L n i w h k1 k3 hlast (ok.rng _ (by omega))
  have hi : i < 64 ^ k := by have := ok.mem _ hm; omega
  have hb : bitAt (L (k - 1)) i = true := by rw [ok.leaf i hi]; simpa using hm
  have hv : (decide (0 ≤ (i : Int) ∧ (i : Int) < 64 * (L (k - 1)).length) && bitAt (L (k - 1)) (i : Int).toNat) = true := by have := ok.size; simp [hb]; omega
  simp only [hv] at hhas
  have HH := Lib.hid hhas
  clear hhas hv hb
  have H := Lib.hid h
  clear h
  go_enter Tryd.func10, Tryd.ntmps10
  go_wp2_with fail
  refine (HH.out).mono ?_
  rintro e w2 ⟨rfl, hk2⟩
  have h2 := H.out.old hk2
  obtain ⟨cap, c0⟩ := h2.c0
  have c1 := h2.c1
  have hp : p < w2.heap.size := h2.lt (.inl rfl)
  have fz : ∀ o, w2.frozen? ⟨p, o, none⟩ = false := by obtain ⟨c, h⟩ := h2.top; exact fun o => h.fz o
  have h3 := h2.setN ok.len (n - 1)
  obtain ⟨cap3, c03⟩ := h3.c0
  have fz0 := fz 1
  have H2 := Lib.hid h2
  have H3 := Lib.hid h3
  have hkS : Kp (Fp p bl B k) w (w2.setCell ⟨p, 1, none⟩ (.int .i64 (n - 1))) := (hk2.mono (fun _ _ h => h.elim)).set (.inl (.inl rfl)) _
  clear h2 h3 fz hk2 H HH
  go_wp2
  go_loopw [1, 5] (fun s1 s5 wr => ∃ (l : Nat) (Lc : Lv) (ic : Nat) (q : Int), l ≤ k ∧ s5 = .int .i64 q ∧ q = (l : Int) - 1 ∧ s1 = .int .i64 ic ∧ ic < 64 ^ l ∧ Hid (dropUp Lc l ic = dropUp L k i) ∧ Hid (∀ j, j < k → (Lc j).length = 64 ^ j) ∧ Hid (∀ j, j < k → ∀ x ∈ Lc j, x < 18446744073709551616) ∧ Hid (FSet wr p k bl B Lc (n - 1)) ∧ Hid (Kp (Fp p bl B k) w wr)) (fun _ s5 _ => (intOf s5 + 1).toNat)
  case atStart => exact ⟨k, L, i, _, Nat.le_refl _, rfl, rfl, rfl, hi, rfl, ok.len, ok.rng, H3.out, hkS⟩
  case round =>
    obtain ⟨l, Lc, ic, q, hl, rfl, hq, rfl, hic, hpu, hlen, hrng, hf, hkp⟩ := hrel
    cases l with
    | zero =>
      obtain rfl : q = -1 := by omega
      clear hq
      go_wp2
      go_ret
      exact ⟨rfl, by rw [← hpu.out]; exact hf.out, hkp.out⟩
    | succ l =>
      obtain rfl : q = (l : Int) := by omega
      clear hq
      have hll : (Lc l).length = 64 ^ l := hlen.out l (by omega)
      have hz : ic / 64 < (Lc l).length := by rw [hll]; rw [Nat.pow_succ] at hic; omega
      obtain ⟨capr, d0⟩ := hf.out.c0
      have dl := hf.out.cl l (by omega)
      have dw := hf.out.cw l (ic / 64) (by omega) hz
      have fw : wr.frozen? ⟨B l, ic / 64, none⟩ = false := (hf.out.wd l (by omega)).fz _
      have hx := getD_rng (Lc l) (ic / 64) (hrng.out l (by omega))
      have hlc : (Lc l).length ≤ 4096 := by rw [hll]; exact pow64 l (by omega)
      have hicb : ic < 64 * (Lc l).length := by omega
      have hset := hf.out.setW hlen.out l (ic / 64) (clrW ((Lc l).getD (ic / 64) 0) (ic % 64)) (by omega)
      have hkp2 := hkp.out.set (p := ⟨B l, ic / 64, none⟩) (.inl (.inr (.inr ⟨l, by omega, rfl⟩))) (.int .u64 (clrW ((Lc l).getD (ic / 64) 0) (ic % 64) : Nat))
      have hlen2 : Hid (∀ j, j < k → (upd Lc l (clrB (Lc l) ic) j).length = 64 ^ j) := fun j hj => by
        unfold upd; split
        · rename_i e; subst e; unfold clrB; rw [List.length_set]; exact hlen.out j hj
        · exact hlen.out j hj
      have hrng2 : Hid (∀ j, j < k → ∀ x ∈ upd Lc l (clrB (Lc l) ic) j, x < 18446744073709551616) := fun j hj => by
        unfold upd; split
        · rename_i e; subst e; exact clrB_rng _ _ (hrng.out j hj)
        · exact hrng.out j hj
      have hnew : (upd Lc l (clrB (Lc l) ic) l).getD (ic / 64) 0 = clrW ((Lc l).getD (ic / 64) 0) (ic % 64) := by simp [upd, clrB, List.getD, hz]
      have hnlen : (upd Lc l (clrB (Lc l) ic) l).length = (Lc l).length := by simp [upd, clrB]
      have hpu2 : Hid ((if clrW ((Lc l).getD (ic / 64) 0) (ic % 64) ≠ 0 then upd Lc l (clrB (Lc l) ic) else dropUp (upd Lc l (clrB (Lc l) ic)) l (ic / 64)) = dropUp L k i) := by
        have := hpu.out; rw [dropUp_succ, hnew] at this; exact this
      have hset' : FSet (wr.setCell ⟨B l, ic / 64, none⟩ (.int .u64 (clrW ((Lc l).getD (ic / 64) 0) (ic % 64) : Nat))) p k bl B (upd Lc l (clrB (Lc l) ic)) (n - 1) := hset
      obtain ⟨capn, n0⟩ := hset'.c0
      have nl := hset'.cl l (by omega)
      have nw := hset'.cw l (ic / 64) (by omega) (by rw [hnlen]; exact hz)
      rw [hnew] at nw
      rw [hnlen] at nl
      have HSET := Lib.hid hset'; clear hset hset'
      have HLL := Lib.hid hll; clear hll
      have hor := andNot_bit _ (ic % 64) hx (Nat.mod_lt _ (by decide))
      have hic2 : ic / 64 < 64 ^ l := by rw [Nat.pow_succ] at hic; omega
      have HKP := Lib.hid hkp2; clear hkp2
      have HOR := Lib.hid hor; clear hor
      generalize (Lc l).getD (ic / 64) 0 = x at *
      generalize upd Lc l (clrB (Lc l) ic) = Ln at *
      clear hpu hlen hrng hf hkp hnew hnlen
      go_wp2
      go_region
      rw [HOR.out]
      have HSET2 := HSET.out
      have HKP2 := HKP.out
      generalize clrW x (ic % 64) = y at *
      generalize wr.setCell ⟨B l, ic / 64, none⟩ (.int .u64 (y : Nat)) = wn at *
      replace HSET := Lib.hid HSET2
      replace HKP := Lib.hid HKP2
      clear HSET2 HKP2 HOR
      by_cases hy : y = 0
      · subst hy
        have hy0 : (((0 : Nat) : Int) != 0) = false := rfl
        have hpu3 : Hid (dropUp Ln l (ic / 64) = dropUp L k i) := by have := hpu2.out; rw [if_neg (by simp)] at this; exact this
        clear hpu2
        go_wp2
        go_roundw
        case rel => exact ⟨l, _, ic / 64, _, by omega, rfl, rfl, by go_num, hic2, hpu3, hlen2, hrng2, HSET.out.kp (Kp.refl none' _).drew (fun _ _ h => h), HKP.out.drew⟩
        case measure => simp [intOf]
      · have hy0 : ((y : Int) != 0) = true := by simpa using hy
        have hpu3 : Hid (Ln = dropUp L k i) := by have := hpu2.out; rw [if_pos hy] at this; exact this
        have HY := Lib.hid hy
        clear hpu2 hy
        go_wp2
        go_ret
        exact ⟨rfl, by rw [← hpu3.out]; exact HSET.out.kp (Kp.refl none' _).drew (fun _ _ h => h), HKP.out.drew⟩

end Go.Proofs.YtoiiofcpohoeaaaDoor
