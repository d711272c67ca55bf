/- Walks of layer 31: addresses read. -/
import Derived.Test.YtgkncanfmojdbaaDoorAddrQ
import Derived.Test.YtgkncanfmojdbaaDoorDigW
import Derived.Test.YtgkncanfmojdbaaDoorShelf
import Derived.Test.YtgkncanfmojdbaaDoorStrs
namespace Go.Proofs.YtgkncanfmojdbaaDoor
set_option linter.unusedVariables false
set_option linter.unusedSimpArgs false
open Go.RowKit Go.Shelf

theorem ret_pr {k1 k2 : IntKind} {a : Nat × Int} {x : Nat} {y : Int} (h : a = (x, y)) : Ending.returned (.tuple #[.int k1 (x : Int), .int k2 y]) = .returned (.tuple #[.int k1 (a.1 : Int), .int k2 a.2]) := by rw [h]
set_option maxHeartbeats 400000 in
theorem aSmall (s : ByteArray) (m : Nat) (w : World) (hs : s.size ≤ 1000000) : Calls Tryd.prog 25 #[.string s, .int .u64 m] w fun e w' => e = .returned (.tuple #[.int .u64 (sm m (bl s)).1, .int .i64 (sm m (bl s)).2]) ∧ w = w' := by
  have hR := fun W => dRead s W hs
  obtain ⟨⟨n, e⟩, hne⟩ : ∃ p, rd (bl s) = p := ⟨_, rfl⟩
  simp only [hne] at hR
  have HR := Lib.hid hR
  have hsm : sm m (bl s) = if e ≠ 0 then (0, e) else if m < n then (0, 5) else (n, 0) := by unfold sm; rw [hne]
  clear hR hne
  by_cases he : e = 0
  · subst he
    rw [if_neg (by simp)] at hsm
    by_cases hm : m < n
    · rw [if_pos hm] at hsm
      have H := Lib.hid hsm; clear hsm
      go_enter Tryd.func25, Tryd.ntmps25
      go_wp2_with fail
      refine (HR.out _).mono ?_
      rintro e w1 ⟨rfl, rfl⟩
      go_wp2_with fail
      go_ret2
      exact ⟨ret_pr H.out, rfl⟩
    · rw [if_neg hm] at hsm
      have H := Lib.hid hsm; clear hsm
      go_enter Tryd.func25, Tryd.ntmps25
      go_wp2_with fail
      refine (HR.out _).mono ?_
      rintro e w1 ⟨rfl, rfl⟩
      go_wp2_with fail
      go_ret2
      exact ⟨ret_pr H.out, rfl⟩
  · rw [if_pos he] at hsm
    have hb : (e != 0) = true := by simpa using he
    have H := Lib.hid hsm; clear hsm he
    go_enter Tryd.func25, Tryd.ntmps25
    go_wp2_with fail
    refine (HR.out _).mono ?_
    rintro e w1 ⟨rfl, rfl⟩
    go_wp2_with fail
    go_ret2
    exact ⟨ret_pr H.out, rfl⟩

/-- The library's variable has a number. -/
def MX (w : World) : Prop := ∃ m, w.cell? ⟨0, 0, none⟩ = some (.int .i64 m)
theorem MX.kp {w w' : World} (h : MX w) (k : Kp none' w w') : MX w' := by
  obtain ⟨m, hm⟩ := h
  exact ⟨m, k.cell hm id⟩
theorem aSplit (s : ByteArray) (c : UInt8) (w : World) (hs : s.size ≤ 1000000) (hx : MX w) : ∃ ps : List ByteArray, ps.map bl = parts c (bl s) ∧
    Calls Tryd.prog 24 #[.string s, .string ⟨#[c]⟩] w fun e w' => e = .returned (.slice (some ⟨w.heap.size, 0, none⟩) ps.length ps.length) ∧ w' = w.alloc (.cells (strs ps).toArray 9) := by
  obtain ⟨m, hm⟩ := hx
  have h1 : 1 ≤ (⟨#[c]⟩ : ByteArray).size := Nat.le_refl 1
  refine ⟨Lib.splitB ⟨#[c]⟩ 0 (Lib.countB s ⟨#[c]⟩) s, ?_, ?_⟩
  · have h := Lib.splitB_data ⟨#[c]⟩ 0 (Lib.countB s ⟨#[c]⟩) s
    exact h.trans (split_parts c (bl s))
  · rw [Lib.splitB_all ⟨#[c]⟩ h1 0 _ s rfl]
    exact Tryd.strings_Split s ⟨#[c]⟩ m w (by omega) hm h1

theorem rdA_cons (A : Nat) (p : List UInt8) (r : List (List UInt8)) : rdA A (p :: r) = if (sm 255 p).2 ≠ 0 then (0, (sm 255 p).2) else rdA (A * 256 + (sm 255 p).1) r := rfl
theorem part_len (c : UInt8) (l : List UInt8) : ∀ p ∈ parts c l, p.length ≤ l.length := by
  have h : ∀ l, (∀ w ∈ (pst c l).1, w.length ≤ l.length) ∧ (pst c l).2.length ≤ l.length := by
    intro l
    refine snocInd (P := fun l => (∀ w ∈ (pst c l).1, w.length ≤ l.length) ∧ (pst c l).2.length ≤ l.length) (by simp [pst]) (fun l d ih => ?_) l
    rw [pst_snoc]
    unfold pstep
    rw [List.length_append]
    split
    · refine ⟨fun w hw => ?_, by simp⟩
      rcases List.mem_append.1 hw with hw | hw
      · exact Nat.le_trans (ih.1 w hw) (by omega)
      · simp at hw; subst hw; exact Nat.le_trans ih.2 (by omega)
    · refine ⟨fun w hw => Nat.le_trans (ih.1 w hw) (by omega), ?_⟩
      simp only [List.length_append, List.length_cons, List.length_nil]; omega
  intro p hp
  unfold parts at hp
  rcases List.mem_append.1 hp with hp | hp
  · exact (h l).1 p hp
  · simp at hp; subst hp; exact (h l).2

set_option maxHeartbeats 2000000 in
theorem aRead (s : ByteArray) (w : World) (hs : s.size ≤ 1000000) (hx : MX w) : Calls Tryd.prog 8 #[.string s] w fun e w' => e = .returned (.tuple #[.int .u32 (readA (bl s)).1, .int .i64 (readA (bl s)).2]) ∧ Kp none' w w' := by
  obtain ⟨ps, hps, hS⟩ := aSplit s 46 w hs hx
  have HS := Lib.hid hS
  have hpl : ps.length = (parts 46 (bl s)).length := by rw [← hps, List.length_map]
  have hsz : ∀ x ∈ ps, x.size ≤ 1000000 := fun x hxm => by
    have h1 := part_len 46 (bl s) (bl x) (by rw [← hps]; exact List.mem_map.2 ⟨x, hxm, rfl⟩)
    rw [bl_len, bl_len] at h1; omega
  by_cases h4 : ps.length = 4
  · have hr : Hid (readA (bl s) = rdA 0 (ps.map bl)) := by show _ = _; unfold readA; rw [if_neg (by omega), hps]
    have hsp := Blk.new w (strs ps) 9
    have hk0 : Kp none' w (w.alloc (.cells (strs ps).toArray 9)) := (Kp.refl _ _).alloc _
    have HB := Lib.hid hsp; have HK := Lib.hid hk0; have H4 := Lib.hid h4; have HSZ := Lib.hid hsz
    clear hS hps hpl hsz hx hsp hk0
    rw [H4.out] at HS
    clear h4
    go_enter Tryd.func8, Tryd.ntmps8
    go_wp2_with fail
    refine (HS.out).mono ?_
    rintro e w1 ⟨rfl, rfl⟩
    generalize w.alloc (.cells (strs ps).toArray 9) = w1 at *
    generalize w.heap.size = b0 at *
    go_wp2_with fail
    go_loop [5, 17] (fun x5 i => ∃ k A : Nat, k ≤ 4 ∧ i = .int .i64 k ∧ x5 = .int .u32 A ∧ Hid (A < 256 ^ k ∧ rdA 0 (ps.map bl) = rdA A ((ps.map bl).drop k))) (fun _ i => 4 - (intOf i).toNat)
    case atStart => exact ⟨0, 0, by omega, rfl, rfl, by decide, rfl⟩
    case round =>
      obtain ⟨k, A, hk, rfl, rfl, hA⟩ := hrel
      by_cases hlt : k < 4
      · have hkp : k < ps.length := by rw [H4.out]; exact hlt
        have hcell := HB.out.cell k (strs_get ps k hkp)
        have hsm := aSmall ps[k] 255
        have hszk := HSZ.out ps[k] (List.getElem_mem hkp)
        have hd : (ps.map bl).drop k = bl ps[k] :: (ps.map bl).drop (k + 1) := by
          rw [List.drop_eq_getElem_cons (by rw [List.length_map]; exact hkp), List.getElem_map]
        have hrd := hA.out.2
        rw [hd, rdA_cons] at hrd
        have hA3 : A < 16777216 := by
          have h1 := hA.out.1
          have h2 : 256 ^ k ≤ 256 ^ 3 := Nat.pow_le_pow_right (by decide) (by omega)
          omega
        have hle := sm_le 255 (bl ps[k])
        obtain ⟨x, hxx⟩ : ∃ x, ps[k] = x := ⟨_, rfl⟩
        rw [hxx] at hcell hsm hrd hle hszk
        clear hxx hd
        have hS2 := fun W => hsm W hszk
        obtain ⟨⟨n, e⟩, hne⟩ : ∃ p, sm 255 (bl x) = p := ⟨_, rfl⟩
        simp only [hne] at hS2 hrd hle
        have HS2 := Lib.hid hS2
        clear hsm hS2 hne
        by_cases he : e = 0
        · subst he
          rw [if_neg (by simp)] at hrd
          have hN : Hid (A * 256 + n < 256 ^ (k + 1)) := by have := hA.out.1; show _ < _; rw [Nat.pow_succ]; omega
          have HRD := Lib.hid hrd
          clear hrd
          go_wp2_with fail
          refine (HS2.out _).mono ?_
          rintro e w2 ⟨rfl, rfl⟩
          go_wp2_with fail
          go_round
          case rel => exact ⟨k + 1, A * 256 + n, by omega, by go_num, by go_num, hN.out, HRD.out⟩
          case measure => simp [intOf]; omega
        · have hb : (e != 0) = true := by simpa using he
          rw [if_pos he] at hrd
          have HRD := Lib.hid (hr.out.trans hrd)
          clear hrd he
          go_wp2_with fail
          refine (HS2.out _).mono ?_
          rintro e w2 ⟨rfl, rfl⟩
          go_wp2_with fail
          go_ret2
          exact ⟨ret_pr HRD.out, HK.out⟩
      · obtain rfl : k = 4 := by omega
        have hrd := hr.out.trans hA.out.2
        rw [List.drop_of_length_le (by rw [List.length_map, H4.out]; exact Nat.le_refl _)] at hrd
        have HRD := Lib.hid hrd
        clear hrd
        go_wp2_with fail
        go_ret2
        exact ⟨ret_pr HRD.out, HK.out⟩
  · have hr : Hid (readA (bl s) = (0, 3)) := by show _ = _; unfold readA; rw [if_pos (by omega)]
    have hb : ((ps.length : Int) != 4) = true := by rw [bne_iff_ne]; omega
    have HK : Hid (Kp none' w (w.alloc (.cells (strs ps).toArray 9))) := (Kp.refl _ _).alloc _
    clear hS hps hpl hsz hx h4
    go_enter Tryd.func8, Tryd.ntmps8
    go_wp2_with fail
    refine (HS.out).mono ?_
    rintro e w1 ⟨rfl, rfl⟩
    generalize w.alloc (.cells (strs ps).toArray 9) = w1 at *
    go_wp2_with fail
    go_ret2
    exact ⟨ret_pr hr.out, HK.out⟩
end Go.Proofs.YtgkncanfmojdbaaDoor
