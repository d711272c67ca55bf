/- What New of package pool makes, for things of kind string. -/
import Derived.Test.YtoiiofcpohoeaaaPoolXString
namespace Go.Proofs.Ytoiiofcpohoeaaa.poolString
open Go.RowKit Go.Proofs.Ytoiiofcpohoeaaa

theorem made2 (z : Value) (n : Nat) : madeCells #[z, z] n = (List.replicate n z).toArray := by
  apply Array.ext
  · simp [madeCells]
  · intro i h1 h2
    have : i % 2 = 0 ∨ i % 2 = 1 := by omega
    rcases this with h | h <;> simp [madeCells, h]
theorem infoe : (Try.prog.info? 64).map (fun i => (i.zero, i.size, i.bytes)) = some (some (.agg #[.int .i32 0, .int .i32 0]), 2, 8) := by kernel_rfl
theorem run_make_ends (n : Nat) (h : n ≤ 262144) (w : World) : (Instr.makeSlice 59 (.int .i64 (n : Int)) (.int .i64 (n : Int))).run Try.prog w = .ok (.slice (some ⟨w.heap.size, 0, none⟩) n n) (w.alloc (.cells (List.replicate (n * 2) (.int .i32 0)).toArray 64)) := by
  obtain ⟨i, hi, hzz⟩ := Option.map_eq_some_iff.1 infoe
  simp only [Prod.mk.injEq] at hzz
  obtain ⟨hz, hs, hb⟩ := hzz
  have hr := run_make (P := Try.prog) w 59 64 i _ Try.underlying59 hi hz .i64 .i64 n n (by omega) (Int.le_refl _) (by rw [hb]; omega) (by omega)
  rw [hs] at hr
  simp only [Int.toNat_natCast] at hr
  rw [hr, ← made2]; rfl

def qz (j n : Nat) : List (Int × Int) := (List.range n).map (fun i => if i < j then ((-1 : Int), (-1 : Int)) else (0, 0))
theorem qz_len (j n : Nat) : (qz j n).length = n := by simp [qz]
theorem qz_get (j n i : Nat) (h : i < n) : (qz j n)[i]? = some (if i < j then (-1, -1) else (0, 0)) := by simp [qz, h]
theorem qz_zero (n : Nat) : (qz 0 n).flatMap enE = List.replicate (n * 2) (.int .i32 0) := by
  have : qz 0 n = List.replicate n (0, 0) := by
    apply List.ext_getElem?
    intro i
    by_cases h : i < n
    · rw [qz_get 0 n i h, List.getElem?_replicate]; simp [h]
    · rw [List.getElem?_eq_none (by rw [qz_len]; omega), List.getElem?_eq_none (by simp; omega)]
  rw [this]
  induction n with
  | zero => rfl
  | succ n ih => rw [List.replicate_succ, List.flatMap_cons, ih (by apply List.ext_getElem?; intro i; by_cases h : i < n; (rw [qz_get 0 n i h, List.getElem?_replicate]; simp [h]); rw [List.getElem?_eq_none (by rw [qz_len]; omega), List.getElem?_eq_none (by simp; omega)])]; rw [show (n + 1) * 2 = n * 2 + 1 + 1 by omega, List.replicate_succ, List.replicate_succ]; rfl
theorem qz_set (j n : Nat) (h : j < n) : (qz j n).set j (-1, -1) = qz (j + 1) n := by
  apply List.ext_getElem?
  intro i
  by_cases hi : i < n
  · by_cases e : i = j
    · subst e; rw [List.getElem?_set_self (by rw [qz_len]; omega), qz_get _ _ _ hi, if_pos (by omega)]
    · rw [List.getElem?_set_ne (fun z => e z.symm), qz_get _ _ _ hi, qz_get _ _ _ hi]
      by_cases h1 : i < j
      · rw [if_pos h1, if_pos (by omega)]
      · rw [if_neg h1, if_neg (by omega)]
  · rw [List.getElem?_eq_none (by simp [qz_len]; omega), List.getElem?_eq_none (by rw [qz_len]; omega)]
theorem qz_full (n : Nat) : qz n n = List.replicate n (-1, -1) := by
  apply List.ext_getElem?
  intro i
  by_cases h : i < n
  · rw [qz_get n n i h, List.getElem?_replicate, if_pos h, if_pos h]
  · rw [List.getElem?_eq_none (by rw [qz_len]; omega), List.getElem?_eq_none (by simp; omega)]

set_option maxHeartbeats 400000 in
theorem pNewNo (most queues : Int) (w : World) (h : ¬ (1 ≤ most ∧ most ≤ 4096 ∧ 0 ≤ queues ∧ queues ≤ 262144)) :
    Calls Try.prog 21 #[.int .i64 most, .int .i64 queues] w fun e w' => e = .returned (.tuple #[.pointer none, .int .i64 6]) ∧ w = w' := by
  by_cases h1 : most < 1
  · clear h
    go_enter Try.func21, Try.ntmps21
    go_wp2
    go_ret2
    exact ⟨rfl, rfl⟩
  · by_cases h2 : 4096 < most
    · clear h
      go_enter Try.func21, Try.ntmps21
      go_wp2
      go_ret2
      exact ⟨rfl, rfl⟩
    · by_cases h3 : queues < 0
      · clear h
        go_enter Try.func21, Try.ntmps21
        go_wp2
        go_ret2
        exact ⟨rfl, rfl⟩
      · have h4 : 262144 < queues := by omega
        clear h
        go_enter Try.func21, Try.ntmps21
        go_wp2
        go_ret2
        exact ⟨rfl, rfl⟩

def SN (most : Int) (j n : Nat) : PS Th := ⟨[], qz j n, most, -1, 0⟩
set_option maxHeartbeats 1000000 in
theorem pNew (most : Int) (n : Nat) (w : World) (h1 : 1 ≤ most) (h2 : most ≤ 4096) (h3 : n ≤ 262144) :
    Calls Try.prog 21 #[.int .i64 most, .int .i64 n] w fun e w' => ∃ p bq, e = .returned (.tuple #[.pointer (some ⟨p, 0, none⟩), .int .i64 0]) ∧ PMem w' w.heap.size p bq (.slice none 0 0) ⟨[], List.replicate n (-1, -1), most, -1, 0⟩ ∧ Kp none' w w' := by
  have hmk := run_make_ends n h3
  have hst : Hid (PMem ((w.alloc (.cells (List.replicate (n * 2) (.int .i32 0)).toArray 64)).alloc (.cells #[.slice none 0 0, .slice (some ⟨w.heap.size, 0, none⟩) n n, .int .i64 most, .int .i32 (-1), .int .i64 0] 78)) w.heap.size (w.heap.size + 1) w.heap.size (.slice none 0 0) (SN most 0 n)) := by
    refine ⟨?_, World.ownsRow_nil _ _ _ _, ?_, by omega⟩
    · simp only [SN, qz_len]
      have := Blk.new (w.alloc (.cells (List.replicate (n * 2) (.int .i32 0)).toArray 64)) [.slice none 0 0, .slice (some ⟨w.heap.size, 0, none⟩) n n, .int .i64 most, .int .i32 (-1), .int .i64 0] 78
      simpa using this
    · simp only [SN, qz_zero]
      exact (Blk.new _ _ _).alloc _
  go_enter Try.func21, Try.ntmps21
  go_wp2
  go_loopw [32] (fun s32 wr => ∃ j : Nat, j ≤ n ∧ s32 = .int .i64 j ∧ Hid (PMem wr w.heap.size (w.heap.size + 1) w.heap.size (.slice none 0 0) (SN most j n) ∧ Kp none' w wr)) (fun s32 _ => n - (intOf s32).toNat)
  case atStart => exact ⟨0, Nat.zero_le _, rfl, hst.out, ((Kp.refl _ _).alloc _).alloc _⟩
  case round =>
    obtain ⟨j, hj, rfl, hh⟩ := hrel
    by_cases hlt : j < n
    · have c1 := hh.out.1.top.cell 1 rfl
      simp only [SN, qz_len] at c1
      have fz := fun k => hh.out.1.queues.fz k
      have e0 := hh.out.1.queues.cell (j * 2) (v := .int .i32 0) (by rw [show j * 2 = j * 2 + 0 from rfl, flat_get enE 2 enE_len _ _ _ (by omega)]; simp only [SN]; rw [qz_get _ _ _ hlt]; simp [enE])
      have e1 := hh.out.1.queues.cell (j * 2 + 1) (v := .int .i32 0) (by rw [flat_get enE 2 enE_len _ _ _ (by omega)]; simp only [SN]; rw [qz_get _ _ _ hlt]; simp [enE])
      have hq : (SN most j n).qs[j]? = some (0, 0) := by simp only [SN]; rw [qz_get _ _ _ hlt, if_neg (by omega)]
      have hn := (hh.out.1.setE j (0, 0) (-1, 0) 0 (.int .i32 (-1)) (by omega) hq rfl).setE j (-1, 0) (-1, -1) 1 (.int .i32 (-1)) (by omega) (by simp [SN, qz_len, hlt]) rfl
      have hk := (hh.out.2.set (p := ⟨w.heap.size, j * 2 + 0, none⟩) (.inr (Nat.le_refl _)) (.int .i32 (-1))).set (p := ⟨w.heap.size, j * 2 + 1, none⟩) (.inr (Nat.le_refl _)) (.int .i32 (-1))
      simp only [SN, List.set_set, qz_set j n hlt, Nat.add_zero] at hn hk
      have HN := Lib.hid hn
      have HK := Lib.hid hk
      clear hn hk hq hmk
      go_wp2
      go_roundw
      case rel => exact ⟨j + 1, by omega, rfl, HN.out, HK.out⟩
      case measure => simp [intOf]; omega
    · obtain rfl : j = n := by omega
      have h1 := hh.out.1
      simp only [SN, qz_full] at h1
      have c1 := hh.out.1.top.cell 1 rfl
      have H1 := Lib.hid h1
      clear h1 hmk
      go_wp2
      go_ret2
      exact ⟨_, _, rfl, H1.out, hh.out.2⟩

end Go.Proofs.Ytoiiofcpohoeaaa.poolString
