/- Headers in memory; sort.Search over the runs of ports. -/
import Derived.Test.YthnlggecjdifnaaDoorRuW
namespace Go.Proofs.YthnlggecjdifnaaDoor
set_option linter.unusedVariables false
set_option linter.unusedSimpArgs false
open Go.RowKit

structure HdR where
  ds : Nat
  id : Nat
  ttl : Nat
  s : Nat
  d : Nat
  sp : Nat
  p : Nat
instance : Inhabited HdR := ⟨⟨0, 0, 0, 0, 0, 0, 0⟩⟩
def HdR.n (h : HdR) : HdN := ⟨h.s, h.d, h.p⟩
def enHd (h : HdR) : List Value := [.int .u8 h.ds, .int .u16 h.id, .int .u8 h.ttl, .int .u32 h.s, .int .u32 h.d, .int .u16 h.sp, .int .u16 h.p]
theorem enHd_len (h : HdR) : (enHd h).length = 7 := rfl
structure HdR.Ok (h : HdR) : Prop where
  s : h.s < 4294967296
  d : h.d < 4294967296
  p : h.p < 65536
/-- What the closure of hold sees. -/
structure HoI (w : World) (tb b0 b1 : Nat) (a b fv pv : Value) (l : List RuN) (zs : List Nat) (h : HdR) : Prop where
  box : Blk w b0 [.pointer (some ⟨tb, 0, none⟩)] 28
  hd : Blk w b1 (enHd h) 26
  blk : Blk w tb [a, b, pv, fv] rtT
  ports : Sl w pv zs.length 2 ((runsOf l zs).flatMap enRun)
theorem HoI.old {w w' : World} {tb b0 b1 : Nat} {a b fv pv : Value} {l : List RuN} {zs : List Nat} {h : HdR} (H : HoI w tb b0 b1 a b fv pv l zs h) (k : Kp none' w w') : HoI w' tb b0 b1 a b fv pv l zs h :=
  ⟨H.box.kp k (fun x => x), H.hd.kp k (fun x => x), H.blk.kp k (fun x => x), H.ports.old k⟩
theorem runs_at {l : List RuN} {zs : List Nat} {i : Nat} (h : i < zs.length) : ∃ h' : i < (runsOf l zs).length, (runsOf l zs)[i] = (zs.getD i 0, setR l (zs.getD i 0)) := by
  refine ⟨by unfold runsOf; simpa using h, ?_⟩
  unfold runsOf
  rw [List.getElem_map, getD_at _ h]
theorem runs_len (l : List RuN) (zs : List Nat) : (runsOf l zs).length = zs.length := by unfold runsOf; simp
set_option maxRecDepth 100000 in
set_option maxHeartbeats 8000000 in
theorem tHoldC (w : World) (tb b0 b1 : Nat) (a b fv pv : Value) (l : List RuN) (zs : List Nat) (h : HdR) (H : HoI w tb b0 b1 a b fv pv l zs h) (i : Nat) (hi : i < zs.length) :
    Calls Tryd.prog 37 #[.int .i64 i, .pointer (some ⟨b0, 0, none⟩), .pointer (some ⟨b1, 0, none⟩)] w fun e w' => e = .returned (.bool (decide (h.p < zs.getD i 0))) ∧ Kp none' w w' := by
  have q0 := H.box.cell 0 rfl
  have q1 := H.hd.cell 6 rfl
  have q2 := H.blk.cell 2 rfl
  obtain ⟨hi', he⟩ := runs_at (l := l) hi
  obtain ⟨g, off, cap', rfl, hc⟩ := H.ports.at enRun_len (by decide) i hi'
  rw [he] at hc
  obtain ⟨z, hz⟩ : ∃ z, zs.getD i 0 = z := ⟨_, rfl⟩
  rw [hz] at hc ⊢
  have c0 : w.cell? ⟨g, off + i * 2, none⟩ = some (.int .u16 z) := hc 0 _ rfl
  have hii : (i : Int) < zs.length := by omega
  clear H hc he hz hi'
  go_enter Tryd.func37, Tryd.ntmps37
  go_wp2_with fail
  go_region
  go_wp2_with fail
  go_ret
  exact ⟨by simp, (Kp.refl _ _).drew⟩
set_option maxRecDepth 100000 in
set_option maxHeartbeats 8000000 in
theorem tSearch (w : World) (tb b0 b1 : Nat) (a b fv pv : Value) (l : List RuN) (zs : List Nat) (h : HdR) (H : HoI w tb b0 b1 a b fv pv l zs h) (hup : zs.Pairwise (· < ·)) (hn : zs.length ≤ 1000000) :
    Calls Tryd.prog 36 #[.int .i64 zs.length, .func (.func 37) #[] #[.pointer (some ⟨b0, 0, none⟩), .pointer (some ⟨b1, 0, none⟩)]] w fun e w' => e = .returned (.int .i64 (upTo zs h.p : Nat)) ∧ Kp none' w w' := by
  have hle := upTo_le zs h.p
  have hpre := upTo_pre hup h.p
  obtain ⟨c, hc⟩ : ∃ c, upTo zs h.p = c := ⟨_, rfl⟩
  rw [hc] at hle hpre ⊢
  have HH := Lib.hid H; have HP := Lib.hid hpre
  clear hc H hup hpre
  go_enter Tryd.func36, Tryd.ntmps36
  go_wp2_with fail
  go_loopw [5, 6] (fun vi vj wr => ∃ i j : Nat, vi = .int .i64 i ∧ vj = .int .i64 j ∧ i ≤ c ∧ c ≤ j ∧ j ≤ zs.length ∧ Hid (Kp none' w wr)) (fun vi vj _ => (intOf vj).toNat - (intOf vi).toNat)
  case atStart => exact ⟨0, zs.length, rfl, rfl, Nat.zero_le _, hle, Nat.le_refl _, Kp.refl _ _⟩
  case round =>
    obtain ⟨i, j, rfl, rfl, hi, hj, hjn, HK⟩ := hrel
    by_cases hij : i < j
    · obtain ⟨m, hm⟩ : ∃ m, (i + j) / 2 = m := ⟨_, rfl⟩
      have hml : m < zs.length := by omega
      have hmi : i ≤ m ∧ m < j := by omega
      have hmz : ((i : Int) + (j : Int)) / 2 = (m : Int) := by omega
      have HC := Lib.hid (fun W k => tHoldC W tb b0 b1 a b fv pv l zs h (HH.out.old (HK.out.trans (k : Kp none' wr W))) m hml)
      have hij2 : (i : Int) < j := by omega
      have hpm := HP.out m hml
      by_cases hmc : m < c
      · have hd : decide (h.p < zs.getD m 0) = false := by rw [decide_eq_false_iff_not]; have := hpm.2 hmc; omega
        rw [hd] at HC
        clear hd hpm hm
        go_wp2_with (go_at_call 37; refine (HC.out _ (by first | exact Kp.refl _ _ | exact (Kp.refl _ _).drew)).mono ?_; rintro e w2 ⟨rfl, hk2⟩; have HK2 := Lib.hid (HK.out.trans hk2); clear hk2)
        go_roundw
        case rel => exact ⟨m + 1, j, by go_num, rfl, by omega, hj, hjn, HK2.out⟩
        case measure => simp [intOf]; omega
      · have hd : decide (h.p < zs.getD m 0) = true := by
          rw [decide_eq_true_eq]
          rcases Nat.lt_or_ge h.p (zs.getD m 0) with h1 | h1
          · exact h1
          · exact absurd (hpm.1 h1) hmc
        rw [hd] at HC
        clear hd hpm hm
        go_wp2_with (go_at_call 37; refine (HC.out _ (by first | exact Kp.refl _ _ | exact (Kp.refl _ _).drew)).mono ?_; rintro e w2 ⟨rfl, hk2⟩; have HK2 := Lib.hid (HK.out.trans hk2); clear hk2)
        go_roundw
        case rel => exact ⟨i, m, rfl, by go_num, by omega, by omega, by omega, HK2.out⟩
        case measure => simp [intOf]; omega
    · have hic : i = c := by omega
      subst hic
      go_wp2_with fail
      go_ret
      exact ⟨rfl, HK.out⟩
end Go.Proofs.YthnlggecjdifnaaDoor
