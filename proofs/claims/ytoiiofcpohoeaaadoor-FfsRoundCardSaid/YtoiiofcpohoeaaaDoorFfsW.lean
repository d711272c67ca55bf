/- What the functions of package ffs compute: each walked once. -/
import Derived.Test.YtoiiofcpohoeaaaDoorFfsP
import Derived.Laws.Bits64b
namespace Go.Proofs.YtoiiofcpohoeaaaDoor
open Go.RowKit

/-- math/bits' table in its variable. -/
def Tab (w : World) : Prop := ∀ j, j < 64 → w.cell? ⟨0, j, none⟩ = some (.int .u8 (Lib.deBruijn64tab.getD j 0))
theorem Tab.kp {S : Nat → Prop} {w w' : World} (h : Tab w) (k : Kp S w w') (hs : ¬ S 0) : Tab w' := fun j hj => k.cell (h j hj) hs

set_option maxHeartbeats 1000000 in
theorem tz_core (x k idx : Nat) (w : World) (hx0 : ((x : Int) == 0) = false)
    (key : IntKind.u64.wrap (bits BinOp.and IntKind.u64 (x : Int) (IntKind.u64.wrap (-(x : Int))) * 285870213051353865) / 288230376151711744 = (idx : Int))
    (hi : idx < 64) (hk : k < 64) (hcell : w.cell? ⟨0, idx, none⟩ = some (.int .u8 k)) :
    Calls Tryd.prog 23 #[.int .u64 x] w fun e w' => e = .returned (.int .i64 k) ∧ w = w' := by
  go_enter Tryd.func23, Tryd.ntmps23
  go_wp2_with (simp only [key])
  go_ret
  exact ⟨rfl, rfl⟩
set_option maxHeartbeats 1000000 in
theorem tz_zero (w : World) : Calls Tryd.prog 23 #[.int .u64 0] w fun e w' => e = .returned (.int .i64 64) ∧ w = w' := by
  go_enter Tryd.func23, Tryd.ntmps23
  go_wp2
  go_ret
  exact ⟨rfl, rfl⟩
theorem tz_key (x a : Nat) (hx : x < 18446744073709551616) (hx0 : x ≠ 0) (hlow : x &&& (18446744073709551616 - x) = a) :
    IntKind.u64.wrap (bits BinOp.and IntKind.u64 (x : Int) (IntKind.u64.wrap (-(x : Int))) * 285870213051353865) / 288230376151711744 = ((a * 285870213051353865 % 18446744073709551616 / 288230376151711744 : Nat) : Int) := by
  have e1 : IntKind.u64.wrap (-(x : Int)) = ((18446744073709551616 - x : Nat) : Int) := by rw [IntKind.wrap_u64]; omega
  rw [e1, bits_and_u64_nat x _ hx (by omega), hlow, IntKind.wrap_u64]
  omega
theorem tz (x : Nat) (hx : x < 18446744073709551616) (w : World) (hT : Tab w) :
    Calls Tryd.prog 23 #[.int .u64 x] w fun e w' => e = .returned (.int .i64 (Lib.ctz 64 x)) ∧ w = w' := by
  by_cases hx0 : x = 0
  · subst hx0
    exact tz_zero w
  · obtain ⟨m, hm, hk⟩ := Lib.ctzFrom_spec 64 x (by omega) hx
    have e : Lib.ctz 64 x = Lib.ctzFrom 64 x := by simp [Lib.ctz, hx0]
    have hlow : x &&& (18446744073709551616 - x) = 2 ^ Lib.ctzFrom 64 x := by
      have := Lib.and_neg 64 (Lib.ctzFrom 64 x) m (by rw [← hm]; exact hx)
      rw [← hm] at this; exact this
    rw [e]
    obtain ⟨hi, htab⟩ := Lib.deBruijn64_at _ hk
    have hcell := hT _ hi
    rw [htab] at hcell
    exact tz_core x _ _ w (by simp; omega) (tz_key x _ hx hx0 hlow) hi hk hcell

def wd (l : List Nat) : List Value := l.map (fun (x : Nat) => Value.int .u64 x)
theorem wd_get (l : List Nat) (i : Nat) (h : i < l.length) : (wd l)[i]? = some (.int .u64 (l.getD i 0 : Nat)) := by simp [wd, List.getD, h]
theorem wd_set (l : List Nat) (i x : Nat) : (wd l).set i (.int .u64 x) = wd (l.set i x) := by simp [wd, List.map_set]

structure FSet (w : World) (p k bl : Nat) (B : Nat → Nat) (L : Lv) (n : Int) : Prop where
  top : ∃ cap, Blk w p [.slice (some ⟨bl, 0, none⟩) k cap, .int .i64 n] 47
  lv : ∃ rest, Blk w bl ((List.range k).map (fun j => Value.slice (some ⟨B j, 0, none⟩) (L j).length (L j).length) ++ rest) 48
  wd : ∀ j, j < k → Blk w (B j) (wd (L j)) 49

theorem Blk.inj {w : World} {b : Nat} {cs cs' : List Value} {t t' : TypeId} (h : Blk w b cs t) (h' : Blk w b cs' t') : cs = cs' ∧ t = t' := by
  have := h.is.symm.trans h'.is
  simp at this
  exact this

theorem FSet.c0 {w : World} {p k bl : Nat} {B : Nat → Nat} {L : Lv} {n : Int} (h : FSet w p k bl B L n) : ∃ cap, w.cell? ⟨p, 0, none⟩ = some (.slice (some ⟨bl, 0, none⟩) k cap) := by
  obtain ⟨cap, h⟩ := h.top; exact ⟨cap, h.cell 0 rfl⟩
theorem FSet.c1 {w : World} {p k bl : Nat} {B : Nat → Nat} {L : Lv} {n : Int} (h : FSet w p k bl B L n) : w.cell? ⟨p, 1, none⟩ = some (.int .i64 n) := by
  obtain ⟨cap, h⟩ := h.top; exact h.cell 1 rfl
theorem FSet.cl {w : World} {p k bl : Nat} {B : Nat → Nat} {L : Lv} {n : Int} (h : FSet w p k bl B L n) (j : Nat) (hj : j < k) : w.cell? ⟨bl, j, none⟩ = some (.slice (some ⟨B j, 0, none⟩) (L j).length (L j).length) := by
  obtain ⟨rest, h⟩ := h.lv; exact h.cell j (by rw [List.getElem?_append_left (by simpa using hj)]; simp [hj])
theorem FSet.cw {w : World} {p k bl : Nat} {B : Nat → Nat} {L : Lv} {n : Int} (h : FSet w p k bl B L n) (j i : Nat) (hj : j < k) (hi : i < (L j).length) : w.cell? ⟨B j, i, none⟩ = some (.int .u64 ((L j).getD i 0 : Nat)) :=
  (h.wd j hj).cell i (wd_get _ _ hi)

set_option maxHeartbeats 400000 in
theorem fLen (p k bl : Nat) (B : Nat → Nat) (L : Lv) (n : Int) (w : World) (h : FSet w p k bl B L n) :
    Calls Tryd.prog 17 #[.pointer (some ⟨p, 0, none⟩)] w fun e w' => e = .returned (.int .i64 n) ∧ w = w' := by
  have c1 := h.c1
  clear h
  go_enter Tryd.func17, Tryd.ntmps17
  go_wp2
  go_ret
  exact ⟨rfl, rfl⟩
set_option maxHeartbeats 400000 in
theorem fLen0 (w : World) : Calls Tryd.prog 17 #[.pointer none] w fun e w' => e = .returned (.int .i64 0) ∧ w = w' := by
  go_enter Tryd.func17, Tryd.ntmps17
  go_wp2
  go_ret
  exact ⟨rfl, rfl⟩

set_option maxHeartbeats 400000 in
theorem fSizeD (p k bl : Nat) (B : Nat → Nat) (L : Lv) (n : Int) (w : World) (h : FSet w p k bl B L n) (k1 : 1 ≤ k) (k3 : k ≤ 3) (hl : (L (k - 1)).length ≤ 4096) :
    Calls Tryd.prog 18 #[.pointer (some ⟨p, 0, none⟩)] w fun e w' => e = .returned (.int .i64 (64 * (L (k - 1)).length)) ∧ ∃ d, w' = w.drewN d := by
  obtain ⟨cap, c0⟩ := h.c0
  have cl := h.cl (k - 1) (by omega)
  clear h
  have k0 : ((k : Int) == 0) = false := by simp; omega
  generalize (L (k - 1)).length = N at *
  obtain ⟨k, rfl⟩ : ∃ j, k = j + 1 := ⟨k - 1, by omega⟩
  simp only [Nat.add_sub_cancel] at cl
  go_enter Tryd.func18, Tryd.ntmps18
  go_wp2
  go_quiet (fail)
  go_wp2
  go_ret
  exact ⟨rfl, _, rfl⟩
theorem fSize (p k bl : Nat) (B : Nat → Nat) (L : Lv) (n : Int) (w : World) (h : FSet w p k bl B L n) (k1 : 1 ≤ k) (k3 : k ≤ 3) (hl : (L (k - 1)).length ≤ 4096) :
    Calls Tryd.prog 18 #[.pointer (some ⟨p, 0, none⟩)] w fun e w' => e = .returned (.int .i64 (64 * (L (k - 1)).length)) ∧ Kp none' w w' :=
  (fSizeD p k bl B L n w h k1 k3 hl).mono fun _ _ ⟨h1, h2⟩ => ⟨h1, kp_drewN h2⟩
set_option maxHeartbeats 400000 in
theorem fSize0 (w : World) : Calls Tryd.prog 18 #[.pointer none] w fun e w' => e = .returned (.int .i64 0) ∧ w = w' := by
  go_enter Tryd.func18, Tryd.ntmps18
  go_wp2
  go_ret
  exact ⟨rfl, rfl⟩

theorem shr_int (x b : Nat) : ((x : Int) / 2 ^ b) = ((x >>> b : Nat) : Int) := by rw [Nat.shiftRight_eq_div_pow]; simp
theorem shr1 (x b : Nat) (hx : x < 18446744073709551616) : (bits BinOp.and IntKind.u64 ((x : Int) / 2 ^ b) 1 == 1) = x.testBit b := by
  rw [shr_int]
  have h1 : x >>> b < 18446744073709551616 := Nat.lt_of_le_of_lt (Nat.shiftRight_le _ _) hx
  have e : bits BinOp.and IntKind.u64 ((x >>> b : Nat) : Int) 1 = (((x >>> b) &&& 1 : Nat) : Int) := bits_and_u64_nat (x >>> b) 1 h1 (by omega)
  rw [e, Nat.testBit, Nat.and_one_is_mod, Nat.and_comm, Nat.and_one_is_mod]
  have : x >>> b % 2 = 0 ∨ x >>> b % 2 = 1 := by omega
  rcases this with h | h <;> rw [h] <;> simp

set_option maxHeartbeats 1000000 in
theorem fHasD (p k bl : Nat) (B : Nat → Nat) (L : Lv) (n i : Int) (w : World) (h : FSet w p k bl B L n) (k1 : 1 ≤ k) (k3 : k ≤ 3) (hl : (L (k - 1)).length ≤ 4096) (hr : ∀ x ∈ L (k - 1), x < 18446744073709551616) :
    Calls Tryd.prog 16 #[.pointer (some ⟨p, 0, none⟩), .int .i64 i] w fun e w' => e = .returned (.bool (decide (0 ≤ i ∧ i < 64 * (L (k - 1)).length) && bitAt (L (k - 1)) i.toNat)) ∧ ∃ d, w' = w.drewN d := by
  have hsz0 := fSizeD p k bl B L n w h k1 k3 hl
  by_cases h1 : i < 0
  · have hF : decide (0 ≤ i ∧ i < 64 * (L (k - 1)).length) = false := by simp; omega
    have HF := Lib.hid hF; clear hF hsz0 h
    go_enter Tryd.func16, Tryd.ntmps16
    go_wp2
    go_ret
    exact ⟨ret_bool (by rw [HF.out]; rfl), 0, rfl⟩
  · obtain ⟨z, rfl⟩ : ∃ z : Nat, i = z := ⟨i.toNat, by omega⟩
    by_cases h2 : (z : Int) < 64 * (L (k - 1)).length
    · have hz : z / 64 < (L (k - 1)).length := by omega
      obtain ⟨cap, c0⟩ := h.c0
      have cl := h.cl (k - 1) (by omega)
      have cw := h.cw (k - 1) (z / 64) (by omega) hz
      have hx := getD_rng (L (k - 1)) (z / 64) hr
      have hb := shr1 ((L (k - 1)).getD (z / 64) 0) (z % 64) hx
      have hF : (decide (0 ≤ (z : Int) ∧ (z : Int) < 64 * (L (k - 1)).length) && bitAt (L (k - 1)) (z : Int).toNat) = bitAt (L (k - 1)) z := by simp; omega
      have HF := Lib.hid hF; clear hF
      have hbt : ((L (k - 1)).getD (z / 64) 0).testBit (z % 64) = bitAt (L (k - 1)) z := rfl
      rw [hbt] at hb
      have HB := Lib.hid hb; clear hb hbt
      have HS := Lib.hid hsz0; clear hsz0 hr
      generalize (L (k - 1)).getD (z / 64) 0 = x at *
      generalize hN : (L (k - 1)).length = N at *
      obtain ⟨k, rfl⟩ : ∃ j, k = j + 1 := ⟨k - 1, by omega⟩
      simp only [Nat.add_sub_cancel] at *
      have c0' := c0; have cl' := cl; have cw' := cw
      clear h hN
      go_enter Tryd.func16, Tryd.ntmps16
      go_wp2_with (go_at_call 18; refine (HS.out).mono ?_; rintro e w' ⟨rfl, d, rfl⟩; clear HS)
      go_quiet (fail)
      go_wp2
      go_ret
      exact ⟨ret_bool (by rw [HF.out, ← HB.out]), _, World.drewN_drewN _ _ _⟩
    · have hF : decide (0 ≤ (z : Int) ∧ (z : Int) < 64 * (L (k - 1)).length) = false := by simp; omega
      have HF := Lib.hid hF; clear hF
      have HS := Lib.hid hsz0; clear hsz0
      clear h hr
      go_enter Tryd.func16, Tryd.ntmps16
      go_wp2_with (go_at_call 18; refine (HS.out).mono ?_; rintro e w' ⟨rfl, d, rfl⟩; clear HS)
      go_ret
      exact ⟨ret_bool (by rw [HF.out]; rfl), _, rfl⟩


theorem fHas (p k bl : Nat) (B : Nat → Nat) (L : Lv) (n i : Int) (w : World) (h : FSet w p k bl B L n) (k1 : 1 ≤ k) (k3 : k ≤ 3) (hl : (L (k - 1)).length ≤ 4096) (hr : ∀ x ∈ L (k - 1), x < 18446744073709551616) :
    Calls Tryd.prog 16 #[.pointer (some ⟨p, 0, none⟩), .int .i64 i] w fun e w' => e = .returned (.bool (decide (0 ≤ i ∧ i < 64 * (L (k - 1)).length) && bitAt (L (k - 1)) i.toNat)) ∧ Kp none' w w' :=
  (fHasD p k bl B L n i w h k1 k3 hl hr).mono fun _ _ ⟨h1, h2⟩ => ⟨h1, kp_drewN h2⟩

theorem aboveF_far (L : Lv) (l i : Nat) (h : 64 * (L l).length ≤ i) : aboveF L l i = -1 := by unfold aboveF; rw [if_pos h]
theorem aboveF_here (L : Lv) (l i : Nat) (h : ¬ 64 * (L l).length ≤ i) (hw : (L l).getD (i / 64) 0 >>> (i % 64) ≠ 0) : aboveF L l i = (i : Int) + Lib.ctz 64 ((L l).getD (i / 64) 0 >>> (i % 64)) := by
  unfold aboveF; rw [if_neg h, if_pos hw]
theorem aboveF_top (L : Lv) (i : Nat) (h : ¬ 64 * (L 0).length ≤ i) (hw : (L 0).getD (i / 64) 0 >>> (i % 64) = 0) : aboveF L 0 i = -1 := by
  unfold aboveF; rw [if_neg h, if_neg (by simpa using hw)]
theorem aboveF_up (L : Lv) (l i : Nat) (h : ¬ 64 * (L (l + 1)).length ≤ i) (hw : (L (l + 1)).getD (i / 64) 0 >>> (i % 64) = 0) :
    aboveF L (l + 1) i = if aboveF L l (i / 64 + 1) < 0 then -1 else 64 * aboveF L l (i / 64 + 1) + Lib.ctz 64 ((L (l + 1)).getD (aboveF L l (i / 64 + 1)).toNat 0) := by
  rw [aboveF, if_neg h, if_neg (by simpa using hw)]
theorem ctz_le (x : Nat) (hx : x < 18446744073709551616) : Lib.ctz 64 x ≤ 64 := by
  by_cases h : x = 0
  · subst h; decide
  · have := (ctz_spec x h hx).1; omega
theorem pow64 (l : Nat) (h : l ≤ 2) : 64 ^ l ≤ 4096 := by
  have : l = 0 ∨ l = 1 ∨ l = 2 := by omega
  rcases this with rfl | rfl | rfl <;> decide
theorem Ok.le {k : Nat} {L : Lv} {m : List Int} (h : Ok k L m) (k3 : k ≤ 3) (j : Nat) (hj : j < k) : (L j).length ≤ 4096 := by
  rw [h.len j hj]; exact pow64 j (by omega)

set_option maxHeartbeats 2000000 in
theorem fAbove (p k bl : Nat) (B : Nat → Nat) (L : Lv) (n : Int) (m : List Int) (w : World) (h : FSet w p k bl B L n) (ok : Ok k L m) (k3 : k ≤ 3) (hT : Tab w) : ∀ (l i : Nat), l < k → i ≤ 9223372036854775807 →
    Calls Tryd.prog 21 #[.pointer (some ⟨p, 0, none⟩), .int .i64 l, .int .i64 i] w fun e w' => e = .returned (.int .i64 (aboveF L l i)) ∧ w = w' := by
  obtain ⟨cap, c0⟩ := h.c0
  intro l
  induction l with
  | zero =>
    intro i hl hi
    have cl := h.cl 0 hl
    have hN := ok.le k3 0 hl
    by_cases h1 : 64 * (L 0).length ≤ i
    · have HF := Lib.hid (aboveF_far L 0 i h1)
      clear h ok hT
      go_enter Tryd.func21, Tryd.ntmps21
      go_wp2
      go_ret
      exact ⟨ret_int HF.out.symm, rfl⟩
    · have hz : i / 64 < (L 0).length := by omega
      have cw := h.cw 0 (i / 64) hl hz
      have hx := getD_rng (L 0) (i / 64) (ok.rng 0 hl)
      by_cases h2 : (L 0).getD (i / 64) 0 >>> (i % 64) = 0
      · have HF := Lib.hid (aboveF_top L i h1 h2)
        have h2' : (((((L 0).getD (i / 64) 0 : Nat) : Int) / 2 ^ (i % 64)) != 0) = false := by rw [shr_int, h2]; rfl
        clear h ok hT h2
        generalize (L 0).getD (i / 64) 0 = x at *
        go_enter Tryd.func21, Tryd.ntmps21
        go_wp2
        go_ret
        exact ⟨ret_int HF.out.symm, rfl⟩
      · have HF := Lib.hid (aboveF_here L 0 i h1 h2)
        have h2' : (((((L 0).getD (i / 64) 0 : Nat) : Int) / 2 ^ (i % 64)) != 0) = true := by rw [shr_int]; simp only [bne_iff_ne]; omega
        have hs := Nat.lt_of_le_of_lt (Nat.shiftRight_le ((L 0).getD (i / 64) 0) (i % 64)) hx
        have htz := tz _ hs w hT
        have hcl := ctz_le _ hs
        have he := shr_int ((L 0).getD (i / 64) 0) (i % 64)
        clear h ok hT h2
        generalize (L 0).getD (i / 64) 0 >>> (i % 64) = y at *
        generalize (L 0).getD (i / 64) 0 = x at *
        have HE := Lib.hid he
        have HT := Lib.hid htz
        clear he htz
        generalize Lib.ctz 64 y = c at *
        go_enter Tryd.func21, Tryd.ntmps21
        go_wp2_with (go_at_call 23; rw [HE.out]; refine (HT.out).mono ?_; rintro e w' ⟨rfl, rfl⟩)
        go_ret
        exact ⟨ret_int HF.out.symm, rfl⟩
  | succ l ih =>
    intro i hl hi
    have cl := h.cl (l + 1) hl
    have hN := ok.le k3 (l + 1) hl
    have hl2 : l ≤ 2 := by omega
    by_cases h1 : 64 * (L (l + 1)).length ≤ i
    · have HF := Lib.hid (aboveF_far L (l + 1) i h1)
      clear h ok hT ih
      go_enter Tryd.func21, Tryd.ntmps21
      go_wp2
      go_ret
      exact ⟨ret_int HF.out.symm, rfl⟩
    · have hz : i / 64 < (L (l + 1)).length := by omega
      have cw := h.cw (l + 1) (i / 64) hl hz
      have hx := getD_rng (L (l + 1)) (i / 64) (ok.rng _ hl)
      by_cases h2 : (L (l + 1)).getD (i / 64) 0 >>> (i % 64) = 0
      · have hup := aboveF_up L l i h1 h2
        have h2' : (((((L (l + 1)).getD (i / 64) 0 : Nat) : Int) / 2 ^ (i % 64)) != 0) = false := by rw [shr_int, h2]; rfl
        have hrec := ih (i / 64 + 1) (by omega) (by omega)
        have hnext := aboveF_ok ok.len ok.rng ok.up l (i / 64 + 1) (by omega)
        have hp : 64 ^ (l + 1) = (L (l + 1)).length := (ok.len _ hl).symm
        have hcw := fun j hj => h.cw (l + 1) j hl hj
        have hrng := ok.rng (l + 1) hl
        clear h ok h2 ih
        generalize aboveF L l (i / 64 + 1) = r at *
        generalize (L (l + 1)).getD (i / 64) 0 = x at *
        have HR := Lib.hid hrec; clear hrec
        rcases hnext with ⟨hr, _⟩ | ⟨a, hr, _, ha, _⟩
        · subst hr
          have HF : Hid (aboveF L (l + 1) i = -1) := by rw [hup]; rfl
          clear hup hcw hp hT
          go_enter Tryd.func21, Tryd.ntmps21
          go_wp2_with (go_at_call 21; refine (HR.out).mono ?_; rintro e w' ⟨rfl, rfl⟩)
          go_ret
          exact ⟨ret_int HF.out.symm, rfl⟩
        · subst hr
          rw [hp] at ha
          have cw2 := hcw a ha
          have hx2 := getD_rng (L (l + 1)) a hrng
          rw [if_neg (by omega)] at hup
          simp only [Int.toNat_natCast] at hup
          have htz := tz _ hx2 w hT
          have hcl := ctz_le _ hx2
          have HF := Lib.hid hup
          have HT := Lib.hid htz
          clear hup hcw hp htz hT
          generalize (L (l + 1)).getD a 0 = y at *
          generalize Lib.ctz 64 y = c at *
          go_enter Tryd.func21, Tryd.ntmps21
          go_wp2_with (first | (go_at_call 21; refine (HR.out).mono ?_; rintro e w' ⟨rfl, rfl⟩) | (go_at_call 23; refine (HT.out).mono ?_; rintro e w' ⟨rfl, rfl⟩))
          go_ret
          exact ⟨ret_int HF.out.symm, rfl⟩
      · have HF := Lib.hid (aboveF_here L (l + 1) i h1 h2)
        have h2' : (((((L (l + 1)).getD (i / 64) 0 : Nat) : Int) / 2 ^ (i % 64)) != 0) = true := by rw [shr_int]; simp only [bne_iff_ne]; omega
        have hs := Nat.lt_of_le_of_lt (Nat.shiftRight_le ((L (l + 1)).getD (i / 64) 0) (i % 64)) hx
        have htz := tz _ hs w hT
        have hcl := ctz_le _ hs
        have he := shr_int ((L (l + 1)).getD (i / 64) 0) (i % 64)
        clear h ok hT h2 ih
        generalize (L (l + 1)).getD (i / 64) 0 >>> (i % 64) = y at *
        generalize (L (l + 1)).getD (i / 64) 0 = x at *
        have HE := Lib.hid he
        have HT := Lib.hid htz
        clear he htz
        generalize Lib.ctz 64 y = c at *
        go_enter Tryd.func21, Tryd.ntmps21
        go_wp2_with (go_at_call 23; rw [HE.out]; refine (HT.out).mono ?_; rintro e w' ⟨rfl, rfl⟩)
        go_ret
        exact ⟨ret_int HF.out.symm, rfl⟩

end Go.Proofs.YtoiiofcpohoeaaaDoor
