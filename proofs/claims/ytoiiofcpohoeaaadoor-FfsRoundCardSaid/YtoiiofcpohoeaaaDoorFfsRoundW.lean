/- FfsRound walked: asked from the one behind the last answer on, each number is told once in a round. -/
import Derived.Test.YtoiiofcpohoeaaaDoorFfsLaw
import Derived.Test.YtoiiofcpohoeaaaDoorOpen
import Derived.Deep.LoopGhost
namespace Go.Proofs.YtoiiofcpohoeaaaDoor
open Go.RowKit

/-- How far a number lies behind the start, round about. -/
def farI (n start z : Int) : Int := if start ≤ z then z - start else z - start + n
theorem emod_two (a n : Int) (h0 : 0 ≤ a) (h : a < 2 * n) : a % n = if a < n then a else a - n := by
  split
  · exact Int.emod_eq_of_lt h0 (by omega)
  · rw [← Int.sub_emod_right]; exact Int.emod_eq_of_lt (by omega) (by omega)
theorem far_mod (n start z : Int) (h1 : 0 ≤ start) (h2 : start < n) (h3 : 0 ≤ z) (h4 : z < n) : (z - start + n) % n = farI n start z := by
  rw [emod_two _ _ (by omega) (by omega)]
  unfold farI
  split <;> split <;> omega

structure RInv (n start last at_ : Int) (m : List Int) : Prop where
  s0 : 0 ≤ start
  s1 : start < n
  l0 : -1 ≤ last
  l1 : last < n
  pos : at_ = if start + last + 1 < n then start + last + 1 else start + last + 1 - n
  all : ∀ z ∈ m, 0 ≤ z ∧ z < n ∧ last < farI n start z
  sorted : m.Pairwise (· < ·)

theorem from_cases (m : List Int) (i : Int) (hs : m.Pairwise (· < ·)) (hne : m ≠ []) : (fromL m i).2 = true ∧ (fromL m i).1 ∈ m ∧
    ((i ≤ (fromL m i).1 ∧ ∀ z ∈ m, i ≤ z → (fromL m i).1 ≤ z) ∨ ((∀ z ∈ m, z < i) ∧ ∀ z ∈ m, (fromL m i).1 ≤ z)) := by
  unfold fromL
  cases hf : m.find? (fun y => decide (i ≤ y)) with
  | some y =>
    obtain ⟨hy, l1, l2, hm, hall⟩ := List.find?_eq_some_iff_append.1 hf
    have hy' : i ≤ y := by simpa using hy
    refine ⟨rfl, by rw [hm]; simp, .inl ⟨hy', fun z hz hiz => ?_⟩⟩
    rw [hm] at hz hs
    rcases List.mem_append.1 hz with h | h
    · have := hall z h; simp at this; omega
    · rcases List.mem_cons.1 h with h | h
      · show y ≤ z; omega
      · have := (List.pairwise_cons.1 (List.pairwise_append.1 hs).2.1).1 z h; show y ≤ z; omega
  | none =>
    have hn : ∀ z ∈ m, z < i := fun z hz => by have := List.find?_eq_none.1 hf z hz; simpa using this
    cases m with
    | nil => exact absurd rfl hne
    | cons a r =>
      refine ⟨rfl, by simp, .inr ⟨hn, fun z hz => ?_⟩⟩
      rcases List.mem_cons.1 hz with h | h
      · show a ≤ z; omega
      · have := (List.pairwise_cons.1 hs).1 z h; show a ≤ z; omega

theorem RInv.step {n start last at_ : Int} {m : List Int} (h : RInv n start last at_ m) (hne : m ≠ []) :
    (fromL m at_).2 = true ∧ (fromL m at_).1 ∈ m ∧ last < farI n start (fromL m at_).1 ∧ RInv n start (farI n start (fromL m at_).1) (((fromL m at_).1 + 1) % n) (dropL m (fromL m at_).1) := by
  obtain ⟨h1, h2, h3⟩ := from_cases m at_ h.sorted hne
  generalize (fromL m at_).1 = x at *
  have hx := h.all x h2
  have hs0 := h.s0; have hs1 := h.s1; have hl0 := h.l0; have hl1 := h.l1; have hp := h.pos
  refine ⟨h1, h2, hx.2.2, ⟨hs0, hs1, ?_, ?_, ?_, fun z hz => ?_, sorted_dropL _ _ h.sorted⟩⟩
  · unfold farI; split <;> omega
  · unfold farI; split <;> omega
  · rw [emod_two _ _ (by omega) (by omega)]
    unfold farI
    split <;> split <;> split <;> omega
  · obtain ⟨hz, hzx⟩ := (mem_dropL _ _ _).1 hz
    have hz' := h.all z hz
    refine ⟨hz'.1, hz'.2.1, ?_⟩
    have h4 := hz'.2.2
    have h5 := hx.2.2
    rcases h3 with ⟨ha, hb⟩ | ⟨ha, hb⟩
    · by_cases hiz : at_ ≤ z
      · have := hb z hz hiz
        unfold farI at *
        split at hp <;> (repeat' split at h4) <;> (repeat' split at h5) <;> (repeat' split) <;> omega
      · unfold farI at *
        split at hp <;> (repeat' split at h4) <;> (repeat' split at h5) <;> (repeat' split) <;> omega
    · have h6 := ha z hz; have h7 := ha x h2; have h8 := hb z hz
      unfold farI at *
      split at hp <;> (repeat' split at h4) <;> (repeat' split at h5) <;> (repeat' split) <;> omega

def enU32 (x : Int) : List Value := [.int .u32 x]
def okU32 (x : Int) : Prop := 0 ≤ x ∧ x ≤ 4294967295
theorem enU32_len (x : Int) : (enU32 x).length = 1 := rfl

structure Rnd (w0 wr : World) (p k bl : Nat) (B : Nat → Nat) (ml : List Int) : Prop where
  set : SR wr p k bl B ml
  kp : Kp none' w0 wr
  new : ∀ b, Fp p bl B k b → w0.heap.size ≤ b
theorem Rnd.mut {w0 wr w2 : World} {p k bl : Nat} {B : Nat → Nat} {ml ml2 : List Int} (h : Rnd w0 wr p k bl B ml) (hs : SR w2 p k bl B ml2) (K : Kp (Fp p bl B k) wr w2) : Rnd w0 w2 p k bl B ml2 :=
  ⟨hs, h.kp.then K (fun b hb hf => by have := h.new b hf; omega), h.new⟩
theorem Rnd.old {w0 wr w2 : World} {p k bl : Nat} {B : Nat → Nat} {ml : List Int} (h : Rnd w0 wr p k bl B ml) (K : Kp none' wr w2) : Rnd w0 w2 p k bl B ml :=
  ⟨h.set.old K, h.kp.trans K, h.new⟩

set_option maxRecDepth 100000 in
set_option maxHeartbeats 4000000 in
theorem round08 (lv : Int) (l : List Int) (fr : Int) (v : Value) (w : World) (hT : Tab w) (hlv : 0 ≤ lv ∧ lv ≤ 255) (hl : Sl w v l.length 1 (l.flatMap enU32)) (hok : ∀ a ∈ l, okU32 a) (hfr : okU32 fr) :
    Calls Tryd.prog 4 #[.int .u8 lv, v, .int .u32 fr] w fun e w' => e = .returned (.bool true) ∧ Kp none' w w' := by
  have hm := hl.max
  have HT := Lib.hid hT; clear hT
  obtain ⟨ao, cap, rfl, _⟩ := hl.is
  by_cases hn : 300 < l.length
  · clear hl
    have HL := Lib.hid (lives08 w HT.out)
    go_enter Tryd.func4, Tryd.ntmps4
    go_wp2_with (go_at_call 7; refine (HL.out).mono ?_; rintro e w2 ⟨rfl, hk2⟩)
    go_ret
    exact ⟨rfl, hk2⟩
  · have HL := Lib.hid hl
    clear hl
    obtain ⟨k, hk⟩ : ∃ k : Nat, (k : Int) = lv % 3 + 1 := ⟨(lv % 3 + 1).toNat, by omega⟩
    have k1 : 1 ≤ k := by omega
    have k3 : k ≤ 3 := by omega
    have h64 := szI_le k k1 k3
    obtain ⟨lv0, lv1⟩ := hlv
    obtain ⟨fr0, fr1⟩ := hfr
    have hk' : lv % 3 + 1 = (k : Int) := hk.symm
    have HK := Lib.hid hk'
    clear hk hk'
    go_enter Tryd.func4, Tryd.ntmps4
    go_wp2_with fail
    rw [HK.out]
    refine (sNew k w k1 k3).mono ?_
    rintro e w1 ⟨p, bl, B, rfl, hs, hp, hk1⟩
    have HP : Hid (Rnd w w1 p k bl B []) := ⟨hs, hk1, hp⟩
    clear hs hk1
    go_wp2_with fail
    refine (sSize p k bl B [] w1 HP.out.set k3).mono ?_
    rintro e w2 ⟨rfl, hd⟩
    have HP2 : Hid (Rnd w w2 p k bl B []) := HP.out.old (kp_drewN hd)
    clear hd HP
    have hz0 : (szI k == 0) = false := by simp; omega
    go_wp2
    go_loopw [42] (fun s42 wr => ∃ (j : Nat) (ml : List Int), j ≤ l.length ∧ s42 = .int .i64 j ∧ ml.length ≤ j ∧ Hid (Rnd w wr p k bl B ml)) (fun s42 _ => l.length - (intOf s42).toNat)
    case atStart => exact ⟨0, [], Nat.zero_le _, rfl, Nat.le_refl _, HP2.out⟩
    case round =>
      obtain ⟨j, ml, hj, rfl, hle, hr⟩ := hrel
      clear HP2
      by_cases hlt : j < l.length
      · obtain ⟨b, off, cap', hv, hcell⟩ := HL.out.at enU32_len (by decide) j hlt
        cases hv
        obtain ⟨x, hx⟩ : ∃ x, l[j] = x := ⟨_, rfl⟩
        rw [hx] at hcell
        obtain ⟨x0, x1⟩ := hok x (by rw [← hx]; exact List.getElem_mem hlt)
        have e0 := hr.out.kp.cell (hcell 0 (.int .u32 x) rfl) id
        simp only [Nat.add_zero, Nat.mul_one] at e0
        clear hcell hx
        go_wp2_with fail
        refine (sPut p k bl B ml _ wr hr.out.set k3 (by omega)).mono ?_
        rintro e w3 ⟨rfl, hs3, hk3⟩
        have hr3 : Hid (Rnd w w3 p k bl B _) := hr.out.mut hs3 hk3
        clear hs3 hk3
        go_wp2
        go_roundw
        case rel => exact ⟨j + 1, _, by omega, by go_num, by split; (rw [putL_len]; omega); omega, hr3⟩
        case measure => simp [intOf]; omega
      · obtain rfl : j = l.length := by omega
        have hT2 := Lib.hid (HT.out.kp hr.out.kp id)
        clear HL
        go_wp2_with fail
        refine (sAll p k bl B ml wr hr.out.set k3 hT2.out (by omega)).mono ?_
        rintro e w3 ⟨v3, rfl, ho3, hk3⟩
        have hr3 : Hid (Rnd w w3 p k bl B ml) := hr.out.old hk3
        obtain ⟨ao3, cap3, hv3⟩ := own_shape ho3
        subst hv3
        have hf1 : fr % szI k < szI k := Int.emod_lt_of_pos _ (by omega)
        have hf0 : 0 ≤ fr % szI k := Int.emod_nonneg _ (by omega)
        have hinv : Hid (RInv (szI k) (fr % szI k) (-1) (fr % szI k) ml) := ⟨hf0, hf1, by omega, by omega, by rw [if_pos (by omega)]; omega, fun z hz => by
          have := hr3.out.set.mem z hz
          refine ⟨this.1, this.2, ?_⟩
          have h2 : z < szI k := this.2
          unfold farI; split <;> omega, hr3.out.set.sorted⟩
        clear ho3 hk3 hr hT2
        go_wp2
        generalize hst : fr % szI k = st at *
        have HST := Lib.hid hst; clear hst
        go_loopw [14, 15, 62] (fun s14 s15 s62 wr => ∃ (i : Nat) (mr : List Int) (la at_ : Int), i + mr.length = ml.length ∧ s62 = .int .i64 i ∧ s14 = .int .i64 la ∧ s15 = .int .i64 at_ ∧ Hid (RInv (szI k) st la at_ mr) ∧ Hid (Rnd w wr p k bl B mr)) (fun _ _ s62 _ => ml.length - (intOf s62).toNat)
        case atStart => exact ⟨0, ml, -1, st, by omega, rfl, rfl, rfl, hinv.out, hr3.out⟩
        case round =>
          obtain ⟨i, mr, la, at_, hi, rfl, rfl, rfl, hinv2, hr4⟩ := hrel
          rename_i wq _
          clear hinv hr3
          have hT4 := Lib.hid (HT.out.kp hr4.out.kp id)
          have hin := hinv2.out
          have ha0 : 0 ≤ at_ ∧ at_ < szI k := by have := hin.pos; have := hin.l0; have := hin.l1; split at * <;> omega
          have hl0 := hin.l0; have hl1 := hin.l1
          clear hin
          by_cases hlt2 : i < ml.length
          · have hne : mr ≠ [] := by rintro rfl; simp at hi; omega
            obtain ⟨g1, g2, g3, g4⟩ := hinv2.out.step hne
            have hx := hinv2.out.all _ g2
            go_wp2_with fail
            refine (sFrom p k bl B mr at_ _ hr4.out.set k3 hT4.out (by omega)).mono ?_
            rintro e w4 ⟨rfl, rfl⟩
            generalize hfx : (fromL mr at_).1 = x at *
            rw [g1]
            have hfar := far_mod (szI k) st x hf0 hf1 hx.1 hx.2.1
            have hHas := sHas p k bl B mr x wr hr4.out.set k3
            have hmem : decide (x ∈ mr) = true := by simpa using g2
            rw [hmem] at hHas
            have hlen := dropL_len mr x hr4.out.set.sorted g2
            generalize hfa : farI (szI k) st x = fa at *
            obtain ⟨at2, hat2⟩ : ∃ y, (x + 1) % szI k = y := ⟨_, rfl⟩
            rw [hat2] at g4
            have hfa0 : 0 ≤ fa ∧ fa < szI k := ⟨by have := g4.l0; omega, g4.l1⟩
            have ht2 : 0 ≤ at2 ∧ at2 < szI k := by rw [← hat2]; exact ⟨Int.emod_nonneg _ (by omega), Int.emod_lt_of_pos _ (by omega)⟩
            have H4 := Lib.hid g4; have HH := Lib.hid hHas; have HFX := Lib.hid hfx
            clear g4 hHas g2 hmem hinv2 hT4 hfx hfa hne g1
            obtain ⟨hx0, hx1, _⟩ := hx
            go_wp2_with fail
            refine (HH.out).mono ?_
            rintro e w5 ⟨rfl, hd⟩
            have hr5 : Hid (Rnd w w5 p k bl B mr) := hr4.out.old (kp_drewN hd)
            clear hr4 hd HH
            go_wp2_with fail
            refine (sDrop p k bl B mr x w5 hr5.out.set k3 (by omega)).mono ?_
            rintro e w6 ⟨rfl, hs6, hk6⟩
            have hr6 : Hid (Rnd w w6 p k bl B (dropL mr x)) := hr5.out.mut hs6 hk6
            clear hr5 hs6 hk6
            go_wp2
            go_roundw
            case rel => exact ⟨i + 1, dropL mr x, fa, at2, by omega, by go_num, by first | rfl | rw [hfar], by first | rfl | rw [hat2], H4.out, hr6.out⟩
            case measure => simp [intOf]; omega
          · have hnil : mr = [] := by
              cases mr with
              | nil => rfl
              | cons a r => simp at hi; omega
            subst hnil
            go_wp2_with fail
            refine (sFrom p k bl B [] at_ _ hr4.out.set k3 hT4.out (by omega)).mono ?_
            rintro e w4 ⟨rfl, rfl⟩
            have hf0 : fromL [] at_ = (0, false) := rfl
            rw [hf0]
            clear hf0
            go_wp2_with fail
            refine (sLen p k bl B [] wr hr4.out.set).mono ?_
            rintro e w4 ⟨rfl, rfl⟩
            go_wp2_with fail
            refine (lives08 wr hT4.out).mono ?_
            rintro e w4 ⟨rfl, hk4⟩
            go_wp2
            go_ret
            exact ⟨rfl, hr4.out.kp.trans hk4⟩

end Go.Proofs.YtoiiofcpohoeaaaDoor
