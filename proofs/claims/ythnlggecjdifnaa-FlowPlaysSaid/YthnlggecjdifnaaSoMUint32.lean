/- The library's sort at uint32: the shuffle of a row whose parts came out uneven. -/
import Derived.Test.YthnlggecjdifnaaSoRUint32
import Derived.Test.YthnlggecjdifnaaShelf
import Derived.Sort.Walk7
namespace Go.Proofs.Ythnlggecjdifnaa.sortUint32
set_option linter.unusedVariables false
set_option linter.unusedSimpArgs false
open Go.RowKit Go.Sort Go.Proofs.Ythnlggecjdifnaa
set_option maxRecDepth 100000 in
set_option maxHeartbeats 4000000 in
theorem xorU (rb ro X : Nat) (hX : X < 18446744073709551616) (w : World) (hc : w.cell? ⟨rb, ro, none⟩ = some (.int .u64 X)) (hf : w.frozen? ⟨rb, ro, none⟩ = false) :
    Calls Try.prog 49 #[.pointer (some ⟨rb, ro, none⟩)] w fun e w' => e = .returned (.int .u64 (xorNextN X : Nat)) ∧ w' = (w.setCell ⟨rb, ro, none⟩ (.int .u64 (xorNextN X : Nat))).drewN 3 := by
  obtain ⟨Y, hY⟩ : ∃ Y : Nat, Y = X ^^^ (X * 8192 % 18446744073709551616) := ⟨_, rfl⟩
  obtain ⟨Z, hZ⟩ : ∃ Z : Nat, Z = Y ^^^ (Y / 128) := ⟨_, rfl⟩
  obtain ⟨V, hV⟩ : ∃ V : Nat, V = Z ^^^ (Z * 131072 % 18446744073709551616) := ⟨_, rfl⟩
  have lY : Y < 18446744073709551616 := by rw [hY]; exact Nat.xor_lt_two_pow (n := 64) (by omega) (by omega)
  have lZ : Z < 18446744073709551616 := by rw [hZ]; exact Nat.xor_lt_two_pow (n := 64) (by omega) (by omega)
  have s1 : bits .xor .u64 (X : Int) (IntKind.u64.wrap ((X : Int) * 8192)) = (Y : Int) := by
    have e : IntKind.u64.wrap ((X : Int) * 8192) = ((X * 8192 % 18446744073709551616 : Nat) : Int) := by rw [IntKind.wrap_u64]; omega
    rw [e, bits_xor_u64_nat _ _ hX (by omega), hY]
  have s2 : bits .xor .u64 (Y : Int) ((Y : Int) / 128) = (Z : Int) := by
    have e : ((Y : Int) / 128) = ((Y / 128 : Nat) : Int) := by omega
    rw [e, bits_xor_u64_nat _ _ lY (by omega), hZ]
  have s3 : bits .xor .u64 (Z : Int) (IntKind.u64.wrap ((Z : Int) * 131072)) = (V : Int) := by
    have e : IntKind.u64.wrap ((Z : Int) * 131072) = ((Z * 131072 % 18446744073709551616 : Nat) : Int) := by rw [IntKind.wrap_u64]; omega
    rw [e, bits_xor_u64_nat _ _ lZ (by omega), hV]
  have hv : xorNextN X = V := by unfold xorNextN; simp only []; rw [← hY, ← hZ, ← hV]
  rw [hv]
  clear hY hZ hV hv
  have once : ∀ v v', (w.setCell ⟨rb, ro, none⟩ v).setCell ⟨rb, ro, none⟩ v' = w.setCell ⟨rb, ro, none⟩ v' := setCell_setCell w rb ro
  go_enter Try.func49, Try.ntmps49
  go_wp2
  go_region
  all_goals go_wp2
  all_goals go_region
  all_goals go_wp2
  all_goals go_region
  all_goals go_wp2
  go_ret
  exact ⟨rfl, rfl⟩
theorem powU (n : Nat) (hn : n < 4611686018427387904) (w : World) :
    Calls Try.prog 48 #[.int .i64 n] w fun e w' => e = .returned (.int .u64 ((1 <<< bitsLen n : Nat) : Int)) ∧ w' = w := by
  have hl := Try.bits_Len (n : Int) w (by omega) (by omega)
  rw [Int.toNat_natCast, bitLen_eq _ (by omega)] at hl
  have hk : bitsLen n ≤ 62 := (bitsLen_le_iff n 62).2 (by omega)
  have hp : IntKind.u64.wrap ((2 : Int) ^ bitsLen n) = ((1 <<< bitsLen n : Nat) : Int) := by exact wrap_two_pow (bitsLen n) hk
  have HP := Lib.hid hp
  clear hp
  go_enter Try.func48, Try.ntmps48
  go_wp2_with (go_at_call 35; refine hl.mono ?_; rintro e w' ⟨rfl, rfl⟩)
  go_ret
  refine ⟨?_, rfl⟩
  rw [← HP.out]
  rfl
set_option maxRecDepth 100000 in
set_option maxHeartbeats 8000000 in
theorem breakBig (blk off cap a L : Nat) (d : Array Nat) (w : World) (hH : Holds en w blk off d) (hblk : blk < w.heap.size) (hb : a + L ≤ d.size) (hsz : d.size < 4611686018427387904) (h8 : 8 ≤ L) :
    Calls Try.prog 38 #[.slice (some ⟨blk, off, none⟩) d.size cap, .int .i64 a, .int .i64 ((a + L : Nat) : Int)] w fun e w' =>
      e = .returned (.tuple #[]) ∧ At en w blk off (breakPatterns d a (a + L)) w' := by
  rw [breakPatterns_eq d a L h8]
  obtain ⟨M, hM⟩ : ∃ M : Nat, M = 1 <<< bitsLen L := ⟨_, rfl⟩
  have hM1 : 1 ≤ M := by rw [hM, Nat.one_shiftLeft]; exact Nat.two_pow_pos _
  have hM2 : M ≤ 2 * L := by rw [hM, Nat.one_shiftLeft]; exact two_pow_bitsLen_le (by omega)
  have hpw := fun w => powU L (by omega) w
  rw [← hM] at hpw ⊢
  have HPW := Lib.hid hpw
  clear hM hpw
  have hst : ∀ T, w.alloc (Obj.cells #[.int .u64 (L : Int)] T) = grow (putRow en (Sort.ahead w 0) blk off d) #[Obj.cells #[.int .u64 ((UInt64.ofNat L).toNat : Int)] T] := fun T => by
    have e : (UInt64.ofNat L).toNat = L := by simp; omega
    rw [ahead_zero, putRow_self _ _ _ _ _ hH, alloc_eq_grow, e]
  have HH := Lib.hid hH
  have HST := Lib.hid hst
  have hLe : (a : Int) + (L : Int) - (a : Int) = (L : Int) := by omega
  clear hH hst
  go_enter Try.func38, Try.ntmps38
  go_wp2_with (go_at_call 48; (try rw [hLe]); refine (HPW.out _).mono ?_; rintro e w' ⟨rfl, rfl⟩)
  clear HPW
  go_loopw [9] (fun vi wr => ∃ (t n : Nat) (r : UInt64) (dk : Array Nat) (T : TypeId), vi = .int .i64 ((a + L / 4 * 2 - 1 + t : Nat) : Int) ∧ t ≤ 3 ∧ dk.size = d.size ∧
      wr = grow (putRow en (Sort.ahead w n) blk off dk) #[Obj.cells #[.int .u64 (r.toNat : Int)] T] ∧
      Hid (bpRest a L M (a + L / 4 * 2 - 1) (3 - t) t (r, dk) = bpRest a L M (a + L / 4 * 2 - 1) 3 0 (UInt64.ofNat L, d))) (fun vi _ => a + L / 4 * 2 + 3 - (intO vi).toNat)
  case atStart => exact ⟨0, 0, UInt64.ofNat L, d, _, by congr 1; omega, by omega, rfl, HST.out _, rfl⟩
  case round =>
    clear HST
    obtain ⟨t, n, r, dk, T, rfl, ht, hsk, hw, HR⟩ := hrel
    obtain ⟨R, hR⟩ : ∃ R : Nat, R = r.toNat := ⟨_, rfl⟩
    have lR : R < 18446744073709551616 := by rw [hR]; exact r.toNat_lt
    obtain ⟨R', hR'⟩ : ∃ R' : Nat, R' = xorNextN R := ⟨_, rfl⟩
    have lR' : R' < 18446744073709551616 := by rw [hR']; exact xorNextN_lt R lR
    obtain ⟨O, hO⟩ : ∃ O : Nat, O = R' &&& (M - 1) := ⟨_, rfl⟩
    have lO : O ≤ M - 1 := by rw [hO]; exact Nat.and_le_right
    have eAnd : bits .and .u64 (R' : Int) ((M : Int) - 1) = (O : Int) := by
      have e : ((M : Int) - 1) = ((M - 1 : Nat) : Int) := by omega
      rw [e, bits_and_u64_nat _ _ lR' (by omega), hO]
    have hz : (putRow en (Sort.ahead w n) blk off dk).heap.size = w.heap.size := by simp
    obtain ⟨G, hG⟩ : ∃ G : Nat → Nat, ∀ x, G x = dk[x]! := ⟨fun x => dk[x]!, fun _ => rfl⟩
    have hcw : ∀ x, x < d.size → wr.cell? ⟨blk, off + x, none⟩ = some (en (G x)) := fun x hx => by
      rw [hw, cell?_grow _ _ _ (by rw [hz]; exact hblk), hG]; exact cell?_putRow _ _ _ _ d dk (holds_ahead _ _ _ _ _ _ HH.out) hsk x (by omega)
    have hfw : ∀ x, x < d.size → wr.frozen? ⟨blk, off + x, none⟩ = false := fun x hx => by
      rw [hw, frozen?_grow _ _ _ (by rw [hz]; exact hblk), frozen?_putRow]; exact ((holds_ahead _ _ n _ _ _ HH.out) x hx).2
    have hcB : wr.cell? ⟨w.heap.size, 0, none⟩ = some (.int .u64 (R : Int)) := by rw [hw, hR, ← hz]; exact grow_one_cell _ _ _
    have hfB : wr.frozen? ⟨w.heap.size, 0, none⟩ = false := by rw [hw, ← hz]; exact grow_one_frozen _ _ _
    have hNx := xorU w.heap.size 0 R lR wr hcB hfB
    rw [← hR'] at hNx
    have HN : Hid (R' = (xorNext r).toNat ∧ O = (xorNext r).toNat &&& (M - 1)) := by
      have e : R' = (xorNext r).toNat := by rw [hR', hR, xorNext_toNat]
      exact ⟨e, by rw [hO, e]⟩
    have HNx := Lib.hid hNx
    have HW := Lib.hid hw
    have HG := Lib.hid hG
    clear hw hG hR hR' hO hNx
    go_wp2_with (go_at_call 49; refine HNx.out.mono ?_; rintro e w' ⟨rfl, rfl⟩)
    · have hLO : L ≤ O := by omega
      obtain ⟨po, hpo⟩ : ∃ po, O - L = po := ⟨_, rfl⟩
      have HPO : Hid ((if (xorNext r).toNat &&& (M - 1) ≥ L then ((xorNext r).toNat &&& (M - 1)) - L else (xorNext r).toNat &&& (M - 1)) = po) := by
        show _ = _
        rw [← HN.out.2, if_pos (by omega), hpo]
      have hpi : (O : Int) - (L : Int) = (po : Int) := by omega
      simp only [hpi]
      by_cases hEq : a + L / 4 * 2 - 1 + t = a + po
      all_goals
        go_region
        all_goals go_wp2
        go_roundw
        case rel =>
          refine ⟨t + 1, n + 4, xorNext r, swp dk (a + L / 4 * 2 - 1 + t) (a + po), T, by first | rfl | (congr 1 <;> omega), by omega, by rw [size_swp]; exact hsk, ?_, ?_⟩
          · (try rw [hEq])
            rw [HW.out, HN.out.1]
            simp only [HG.out]
            exact step_world en w n 4 blk off dk _ _ hblk (by omega) (by omega) _ _ _
          · show _ = _
            rw [← HR.out, bp_step a L M _ t r dk po (by omega) HPO.out]
        case measure => first | (simp [intO]; done) | (simp [intO]; omega)
    · have hLO : ¬ L ≤ O := by omega
      obtain ⟨po, hpo⟩ : ∃ po, po = O := ⟨_, rfl⟩
      subst hpo
      have HPO : Hid ((if (xorNext r).toNat &&& (M - 1) ≥ L then ((xorNext r).toNat &&& (M - 1)) - L else (xorNext r).toNat &&& (M - 1)) = po) := by
        show _ = _
        rw [← HN.out.2, if_neg (by omega)]
      by_cases hEq : a + L / 4 * 2 - 1 + t = a + po
      all_goals
        go_region
        all_goals go_wp2
        go_roundw
        case rel =>
          refine ⟨t + 1, n + 4, xorNext r, swp dk (a + L / 4 * 2 - 1 + t) (a + po), T, by first | rfl | (congr 1 <;> omega), by omega, by rw [size_swp]; exact hsk, ?_, ?_⟩
          · (try rw [hEq])
            rw [HW.out, HN.out.1]
            simp only [HG.out]
            exact step_world en w n 4 blk off dk _ _ hblk (by omega) (by omega) _ _ _
          · show _ = _
            rw [← HR.out, bp_step a L M _ t r dk po (by omega) HPO.out]
        case measure => first | (simp [intO]; done) | (simp [intO]; omega)
    · obtain rfl : t = 3 := by omega
      go_end0
      exact ⟨rfl, n, _, by rw [← HR.out, HW.out]; rfl⟩
set_option maxRecDepth 100000 in
set_option maxHeartbeats 8000000 in
theorem breakU (blk off cap a b : Nat) (d : Array Nat) (w : World) (hH : Holds en w blk off d) (hblk : blk < w.heap.size) (hab : a ≤ b) (hb : b ≤ d.size) (hsz : d.size < 4611686018427387904) :
    Calls Try.prog 38 #[.slice (some ⟨blk, off, none⟩) d.size cap, .int .i64 a, .int .i64 b] w fun e w' =>
      e = .returned (.tuple #[]) ∧ Rw w blk off (breakPatterns d a b) w' := by
  obtain ⟨L, rfl⟩ : ∃ L, b = a + L := ⟨b - a, by omega⟩
  by_cases h8 : 8 ≤ L
  · exact (breakBig blk off cap a L d w hH hblk hb hsz h8).mono fun e w' h => ⟨h.1, Rw.of_at hblk h.2⟩
  · have hv : breakPatterns d a (a + L) = d := by unfold breakPatterns; simp only [Nat.add_sub_cancel_left]; rw [if_neg h8]
    rw [hv]
    have HST := Lib.hid (Rw.refl hH hblk)
    clear hH
    go_enter Try.func38, Try.ntmps38
    go_wp2
    go_end0
    exact ⟨rfl, HST.out⟩
end Go.Proofs.Ythnlggecjdifnaa.sortUint32
