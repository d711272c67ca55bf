/- A flow's place among flows, in plain Lean. -/
import Derived.Test.YtfckgddodjmbdaaGreatDoorMDeviceNobodyF6
import Derived.Test.YtfckgddodjmbdaaGreatDoorMDeviceNobodyF0
import Derived.Test.YtfckgddodjmbdaaGreatDoorShelf
import Derived.Test.YtfckgddodjmbdaaGreatDoorProg
import Derived.Laws.Externs
import Derived.Test.YtfckgddodjmbdaaGreatDoorMDeviceNobodyF2
import Derived.Test.YtfckgddodjmbdaaGreatDoorMDeviceNobodyF1
import Derived.Test.YtfckgddodjmbdaaGreatDoorMDeviceNobodyF4
namespace Go.Proofs.YtfckgddodjmbdaaGreatDoor
set_option linter.unusedVariables false
set_option linter.unusedSimpArgs false
def findF : List FlR → Nat → Int
  | [], _ => -1
  | f :: r, id => if f.id = id then 0 else if findF r id < 0 then -1 else findF r id + 1
theorem findF_ge (l : List FlR) (id : Nat) : -1 ≤ findF l id ∧ findF l id < l.length := by
  induction l with
  | nil => simp [findF]
  | cons f r ih =>
    rw [List.length_cons]
    unfold findF
    by_cases h1 : f.id = id
    · rw [if_pos h1]; omega
    · rw [if_neg h1]
      by_cases h2 : findF r id < 0
      · rw [if_pos h2]; omega
      · rw [if_neg h2]; omega
theorem findF_at (l : List FlR) (id j : Nat) (hj : j < l.length) (h : ∀ i (hi : i < j), (l[i]'(by omega)).id ≠ id) (e : l[j].id = id) : findF l id = j := by
  induction l generalizing j with
  | nil => simp at hj
  | cons f r ih =>
    cases j with
    | zero => unfold findF; rw [if_pos (by simpa using e)]; rfl
    | succ j =>
      have h0 : f.id ≠ id := by have := h 0 (by omega); simpa using this
      have := ih j (by simpa using hj) (fun i hi => by have := h (i + 1) (by omega); simpa using this) (by simpa using e)
      unfold findF; rw [if_neg h0, if_neg (by omega), this]; simp
theorem findF_none (l : List FlR) (id : Nat) (h : ∀ i (hi : i < l.length), (l[i]'hi).id ≠ id) : findF l id = -1 := by
  induction l with
  | nil => rfl
  | cons f r ih =>
    have h0 : f.id ≠ id := by have := h 0 (by simp); simpa using this
    have := ih (fun i hi => by have := h (i + 1) (by simpa using hi); simpa using this)
    unfold findF; rw [if_neg h0, this]; simp
end Go.Proofs.YtfckgddodjmbdaaGreatDoor

namespace Go.Proofs.YtfckgddodjmbdaaGreatDoor
set_option linter.unusedVariables false
set_option linter.unusedSimpArgs false
open Go.RowKit Go.Shelf
def satN (a b : Nat) : Nat := if a + b < 18446744073709551616 then a + b else 18446744073709551615
theorem satN_lt (a b : Nat) : satN a b < 18446744073709551616 := by unfold satN; split <;> omega
theorem run_add (a b : Nat) (w : World) : (callFunc 78 #[.int .u64 a, .int .u64 b, .int .u64 0]).run Tryz.prog w = .ok (.value (.tuple #[.int .u64 (((a + b) % 18446744073709551616 : Nat) : Int), .int .u64 (((a + b) / 18446744073709551616 : Nat) : Int)])) w := by
  rw [run_callFunc_extern Tryz.func78 (by kernel_rfl) (by kernel_rfl) (by kernel_rfl) (e := add64Entry) (by kernel_rfl), run_add64 a b 0 (by omega) (by omega) (by omega) (by omega)]
  simp only [Result.andThen]
  congr 5 <;> omega
set_option maxHeartbeats 1000000 in
theorem sAdd (a b : Nat) (ha : a < 18446744073709551616) (hb : b < 18446744073709551616) (w : World) : Calls Tryz.prog 47 #[.int .u64 a, .int .u64 b] w fun e w' => e = .returned (.int .u64 (satN a b)) ∧ w = w' := by
  have hr := run_add a b
  by_cases h : a + b < 18446744073709551616
  · have h1 : (a + b) % 18446744073709551616 = a + b := Nat.mod_eq_of_lt h
    have h2 : (a + b) / 18446744073709551616 = 0 := Nat.div_eq_of_lt h
    rw [h1, h2] at hr
    have HS : Hid (satN a b = a + b) := by show _ = _; unfold satN; rw [if_pos h]
    clear h1 h2
    go_enter Tryz.func47, Tryz.ntmps47
    go_wp2
    go_ret
    exact ⟨by rw [HS.out, Int.natCast_add]; rfl, rfl⟩
  · have h2 : (a + b) / 18446744073709551616 = 1 := by omega
    obtain ⟨c, hc⟩ : ∃ c, (a + b) % 18446744073709551616 = c := ⟨_, rfl⟩
    rw [h2, hc] at hr
    have HS : Hid (satN a b = 18446744073709551615) := by show _ = _; unfold satN; rw [if_neg h]
    clear h2 hc
    go_enter Tryz.func47, Tryz.ntmps47
    go_wp2
    go_ret
    exact ⟨by rw [HS.out]; rfl, rfl⟩
end Go.Proofs.YtfckgddodjmbdaaGreatDoor

namespace Go.Proofs.YtfckgddodjmbdaaGreatDoor
set_option linter.unusedVariables false
set_option linter.unusedSimpArgs false
open Go Go.RowKit Go.Shelf
def satM (a b : Nat) : Nat := if a * b < 18446744073709551616 then a * b else 18446744073709551615
theorem satM_lt (a b : Nat) : satM a b < 18446744073709551616 := by unfold satM; split <;> omega
set_option maxHeartbeats 1000000 in
theorem sSub (a b : Nat) (ha : a < 18446744073709551616) (w : World) : Calls Tryz.prog 104 #[.int .u64 a, .int .u64 b] w fun e w' => e = .returned (.int .u64 (a - b : Nat)) ∧ w = w' := by
  by_cases h : a < b
  · have h' : (a : Int) < b := by omega
    have e : a - b = 0 := by omega
    rw [e]
    go_enter Tryz.func104, Tryz.ntmps104
    go_wp2
    go_ret
    exact ⟨rfl, rfl⟩
  · have h' : ¬ (a : Int) < b := by omega
    obtain ⟨c, hc⟩ : ∃ c, a - b = c := ⟨_, rfl⟩
    have hci : (a : Int) - b = c := by omega
    have hw : IntKind.u64.wrap (c : Int) = c := by rw [IntKind.wrap_u64]; omega
    rw [hc]
    clear hc
    go_enter Tryz.func104, Tryz.ntmps104
    go_wp2
    go_ret
    exact ⟨rfl, rfl⟩
set_option maxHeartbeats 1000000 in
theorem sMul (a b : Nat) (ha : a < 18446744073709551616) (hb : b < 18446744073709551616) (w : World) : Calls Tryz.prog 108 #[.int .u64 a, .int .u64 b] w fun e w' => e = .returned (.int .u64 (satM a b)) ∧ w = w' := by
  have hm := Tryz.bits_Mul64 a b ha hb w
  obtain ⟨hi, hhi⟩ : ∃ hi, a * b / 18446744073709551616 = hi := ⟨_, rfl⟩
  obtain ⟨lo, hlo⟩ : ∃ lo, a * b % 18446744073709551616 = lo := ⟨_, rfl⟩
  rw [hhi, hlo] at hm
  have HB := Lib.hid hm
  by_cases h : 0 < hi
  · have h' : (0 : Int) < hi := by omega
    have HS : Hid (satM a b = 18446744073709551615) := by
      show _ = _; unfold satM; rw [if_neg]
      intro hc
      have := Nat.div_eq_of_lt hc
      omega
    clear hm hhi hlo
    go_enter Tryz.func108, Tryz.ntmps108
    go_wp2_with (go_at_call 52; refine HB.out.mono ?_; rintro e w' ⟨rfl, rfl⟩)
    go_ret
    exact ⟨by rw [HS.out]; rfl, rfl⟩
  · have h' : ¬ (0 : Int) < hi := by omega
    have HS : Hid (satM a b = lo) := by
      show _ = _; unfold satM
      have h0 : a * b / 18446744073709551616 = 0 := by omega
      have h1 : a * b < 18446744073709551616 := by
        rcases Nat.div_eq_zero_iff.1 h0 with h2 | h2
        · cases h2
        · exact h2
      rw [if_pos h1, ← hlo, Nat.mod_eq_of_lt h1]
    clear hm hhi hlo
    go_enter Tryz.func108, Tryz.ntmps108
    go_wp2_with (go_at_call 52; refine HB.out.mono ?_; rintro e w' ⟨rfl, rfl⟩)
    go_ret
    exact ⟨by rw [HS.out]; rfl, rfl⟩
set_option maxHeartbeats 1000000 in
theorem sMulAdd (a b c : Nat) (ha : a < 18446744073709551616) (hb : b < 18446744073709551616) (hc : c < 18446744073709551616) (w : World) : Calls Tryz.prog 80 #[.int .u64 a, .int .u64 b, .int .u64 c] w fun e w' => e = .returned (.int .u64 (satN a (satM b c))) ∧ w = w' := by
  have HM := Lib.hid (fun W => sMul b c hb hc W)
  have HA := Lib.hid (fun W => sAdd a (satM b c) ha (satM_lt b c) W)
  generalize satM b c = m at *
  generalize satN a m = r at *
  go_enter Tryz.func80, Tryz.ntmps80
  go_wp2_with fail
  refine (HM.out _).mono ?_
  rintro e w1 ⟨rfl, rfl⟩
  go_wp2_with fail
  refine (HA.out _).mono ?_
  rintro e w2 ⟨rfl, rfl⟩
  go_wp2_with fail
  go_ret
  exact ⟨rfl, rfl⟩
theorem infoBk : (Tryz.prog.info? 136).map (·.size) = some 3 := by kernel_rfl
set_option maxHeartbeats 1000000 in
theorem bCheckOk (r b t : Nat) (h1 : 0 < r) (h2 : 0 < b) (h3 : t ≤ b) (w : World) : Calls Tryz.prog 79 #[.agg #[.int .u64 r, .int .u64 b, .int .u64 t]] w fun e w' => e = .returned (.int .i64 0) ∧ Kp none' w w' := by
  have h1' : ((r : Int) == 0) = false := by rw [beq_eq_false_iff_ne]; omega
  have h2' : ((b : Int) == 0) = false := by rw [beq_eq_false_iff_ne]; omega
  have h3' : ¬ (b : Int) < t := by omega
  go_enter Tryz.func79, Tryz.ntmps79
  go_wp2
  go_ret
  exact ⟨rfl, (Kp.refl none' w).alloc _⟩
set_option maxRecDepth 100000 in
set_option maxHeartbeats 1000000 in
theorem bNewOk (r b : Nat) (h1 : 0 < r) (h2 : 0 < b) (w : World) : Calls Tryz.prog 87 #[.int .u64 r, .int .u64 b] w fun e w' => e = .returned (.tuple #[.agg #[.int .u64 r, .int .u64 b, .int .u64 b], .int .i64 0]) ∧ Kp none' w w' := by
  go_enter Tryz.func87, Tryz.ntmps87
  go_wp2_with fail
  refine (bCheckOk r b b h1 h2 (Nat.le_refl _) _).mono ?_
  rintro e w2 ⟨rfl, hk⟩
  have hs1 : (w.alloc (.cells #[.int .u64 0, .int .u64 0, .int .u64 0] 136)).heap.size = w.heap.size + 1 := by simp
  have HB4 := Lib.hid (((Blk.new w [.int .u64 0, .int .u64 0, .int .u64 0] 136).alloc (.cells #[.int .u64 r, .int .u64 b, .int .u64 b] 136)).kp hk (fun x => x))
  have hB6 := (Blk.new (w.alloc (.cells #[.int .u64 0, .int .u64 0, .int .u64 0] 136)) [.int .u64 r, .int .u64 b, .int .u64 b] 136).kp hk (fun x => x)
  rw [hs1] at hB6
  have HB6 := Lib.hid hB6
  have HK2 := Lib.hid ((((Kp.refl none' w).alloc (.cells #[.int .u64 0, .int .u64 0, .int .u64 0] 136)).alloc (.cells #[.int .u64 r, .int .u64 b, .int .u64 b] 136)).trans hk)
  clear hB6 hk hs1
  have y0 := HB6.out.cell 0 rfl
  have y1 := HB6.out.cell 1 rfl
  have y2 := HB6.out.cell 2 rfl
  have x0 := HB4.out.cell 0 rfl
  have x1 := HB4.out.cell 1 rfl
  have x2 := HB4.out.cell 2 rfl
  have xf := fun j => HB4.out.fz j
  go_wp2_with fail
  exact ret_row2 (by exact rfl) (((HB4.out.set 0 (.int .u64 r)).set 1 (.int .u64 b)).set 2 (.int .u64 b)) _ Tryz.underlying136 rfl infoBk (by exact rfl) ⟨rfl, ((HK2.out.set (p := ⟨w.heap.size, 0, none⟩) (.inr (Nat.le_refl _)) _).set (p := ⟨w.heap.size, 1, none⟩) (.inr (Nat.le_refl _)) _).set (p := ⟨w.heap.size, 2, none⟩) (.inr (Nat.le_refl _)) _⟩
def tickB (r b t n : Nat) : Nat := min (satN t (satM r n)) b
set_option maxRecDepth 100000 in
set_option maxHeartbeats 2000000 in
theorem bTick (r b t n : Nat) (h1 : 0 < r) (h2 : 0 < b) (h3 : t ≤ b) (hr : r < 18446744073709551616) (hb : b < 18446744073709551616) (hn : n < 18446744073709551616) (w : World) : Calls Tryz.prog 48 #[.agg #[.int .u64 r, .int .u64 b, .int .u64 t], .int .u64 n] w fun e w' => e = .returned (.agg #[.int .u64 r, .int .u64 b, .int .u64 (tickB r b t n)]) ∧ Kp none' w w' := by
  have HM := Lib.hid (fun W => sMulAdd t r n (by omega) hr hn W)
  obtain ⟨m, hm⟩ : ∃ m, satN t (satM r n) = m := ⟨_, rfl⟩
  have hT : tickB r b t n = min m b := by unfold tickB; rw [hm]
  rw [hm] at HM
  obtain ⟨q, hq⟩ : ∃ q, min m b = q := ⟨_, rfl⟩
  rw [hT, hq]
  have HQ : Hid (min (m : Int) b = (q : Int)) := Lib.hid (by rw [← hq]; omega)
  clear hm hT hq
  go_enter Tryz.func48, Tryz.ntmps48
  go_wp2_with fail
  refine (bCheckOk r b t h1 h2 h3 _).mono ?_
  rintro e w2 ⟨rfl, hk⟩
  have hs1 : (w.alloc (.cells #[.int .u64 r, .int .u64 b, .int .u64 t] 136)).heap.size = w.heap.size + 1 := by simp
  have HB4 := Lib.hid (((Blk.new w [.int .u64 r, .int .u64 b, .int .u64 t] 136).alloc (.cells #[.int .u64 0, .int .u64 0, .int .u64 0] 136)).kp hk (fun x => x))
  have hB6 := (Blk.new (w.alloc (.cells #[.int .u64 r, .int .u64 b, .int .u64 t] 136)) [.int .u64 0, .int .u64 0, .int .u64 0] 136).kp hk (fun x => x)
  rw [hs1] at hB6
  have HB6 := Lib.hid hB6
  have HK2 := Lib.hid ((((Kp.refl none' w).alloc (.cells #[.int .u64 r, .int .u64 b, .int .u64 t] 136)).alloc (.cells #[.int .u64 0, .int .u64 0, .int .u64 0] 136)).trans hk)
  clear hB6 hk hs1
  go_wp2_with fail
  have y0 := HB4.out.cell 0 rfl
  have y1 := HB4.out.cell 1 rfl
  have y2 := HB4.out.cell 2 rfl
  refine wp_region_kept2 [] [0, 1, 2, 3, 4, 5, 6, 7, 8, 9] 10 (by kernel_rfl) (by kernel_rfl) (fun c a d u w h => by cases d <;> exact h) ?_
  simp only [pick, List.getElem?_cons_succ, List.getElem?_cons_zero, List.drop_succ_cons, List.drop_zero]
  show wpKL _ _ _ _ _ _
  repeat (first
    | (refine wpKL_op (by exact rfl) (by as_aux_lemma => intro W hK; have e0 := hK.cell y0 (fun x => x); have e1 := hK.cell y1 (fun x => x); have e2 := hK.cell y2 (fun x => x); have e3 := HQ.out; go_simp; exact rfl) ?_; simp only [Act.put, List.setIfInBounds_toArray, List.set_cons_succ, List.set_cons_zero])
    | (refine wpKL_off (by exact rfl) ?_; simp only [Act.put, List.setIfInBounds_toArray, List.set_cons_succ, List.set_cons_zero])
    | (refine wpKL_call (by exact rfl) (by as_aux_lemma => intro W; go_simp; exact ⟨rfl, rfl⟩) (by intro W hK; with_reducible first | exact (HM.out W).mono fun _ _ h => ⟨h.1, h.2 ▸ Kp.refl _ _⟩) ?_; simp only [Act.put, List.setIfInBounds_toArray, List.set_cons_succ, List.set_cons_zero]))
  show ∀ W, _ → wpList _ _ _ _ _ _
  intro W3 hK3
  have HB4' := Lib.hid (HB4.out.kp hK3 (fun x => x))
  have HB6' := Lib.hid (HB6.out.kp hK3 (fun x => x))
  have HK3 := Lib.hid (HK2.out.trans hK3)
  clear hK3 y0 y1 y2
  have y0 := HB4'.out.cell 0 rfl
  have y1 := HB4'.out.cell 1 rfl
  have y2 := HB4'.out.cell 2 rfl
  have yf := fun j => HB4'.out.fz j
  have x0 := HB6'.out.cell 0 rfl
  have x1 := HB6'.out.cell 1 rfl
  have x2 := HB6'.out.cell 2 rfl
  have xf := fun j => HB6'.out.fz j
  go_wp2_with fail
  have hks : Kp none' w (W3.setCell ⟨w.heap.size, 2, none⟩ (.int .u64 (q : Int))) := HK3.out.set (p := ⟨w.heap.size, 2, none⟩) (.inr (Nat.le_refl _)) _
  have hx := (((HB6'.out.setNe (a := ⟨w.heap.size, 2, none⟩) (by show w.heap.size + 1 ≠ w.heap.size; omega) (.int .u64 (q : Int))).set 0 (.int .u64 r)).set 1 (.int .u64 b)).set 2 (.int .u64 (q : Int))
  exact ret_row (by exact rfl) hx _ Tryz.underlying136 rfl infoBk (by exact rfl) ⟨rfl, ((hks.set (p := ⟨w.heap.size + 1, 0, none⟩) (.inr (by show _ ≤ w.heap.size + 1; omega)) _).set (p := ⟨w.heap.size + 1, 1, none⟩) (.inr (by show _ ≤ w.heap.size + 1; omega)) _).set (p := ⟨w.heap.size + 1, 2, none⟩) (.inr (by show _ ≤ w.heap.size + 1; omega)) _⟩
set_option maxRecDepth 100000 in
set_option maxHeartbeats 2000000 in
theorem bTakeNo (r b t n : Nat) (h1 : 0 < r) (h2 : 0 < b) (h3 : t ≤ b) (hn : t < n) (w : World) : Calls Tryz.prog 75 #[.agg #[.int .u64 r, .int .u64 b, .int .u64 t], .int .u64 n] w fun e w' => e = .returned (.tuple #[.agg #[.int .u64 r, .int .u64 b, .int .u64 t], .bool false]) ∧ Kp none' w w' := by
  have hn' : (t : Int) < n := by omega
  go_enter Tryz.func75, Tryz.ntmps75
  go_wp2_with fail
  refine (bCheckOk r b t h1 h2 h3 _).mono ?_
  rintro e w2 ⟨rfl, hk⟩
  have hs1 : (w.alloc (.cells #[.int .u64 r, .int .u64 b, .int .u64 t] 136)).heap.size = w.heap.size + 1 := by simp
  have HB4 := Lib.hid (((Blk.new w [.int .u64 r, .int .u64 b, .int .u64 t] 136).alloc (.cells #[.int .u64 0, .int .u64 0, .int .u64 0] 136)).kp hk (fun x => x))
  have hB6 := (Blk.new (w.alloc (.cells #[.int .u64 r, .int .u64 b, .int .u64 t] 136)) [.int .u64 0, .int .u64 0, .int .u64 0] 136).kp hk (fun x => x)
  rw [hs1] at hB6
  have HB6 := Lib.hid hB6
  have HK2 := Lib.hid ((((Kp.refl none' w).alloc (.cells #[.int .u64 r, .int .u64 b, .int .u64 t] 136)).alloc (.cells #[.int .u64 0, .int .u64 0, .int .u64 0] 136)).trans hk)
  clear hB6 hk hs1
  have y0 := HB4.out.cell 0 rfl
  have y1 := HB4.out.cell 1 rfl
  have y2 := HB4.out.cell 2 rfl
  have yf := fun j => HB4.out.fz j
  have x0 := HB6.out.cell 0 rfl
  have x1 := HB6.out.cell 1 rfl
  have x2 := HB6.out.cell 2 rfl
  have xf := fun j => HB6.out.fz j
  go_wp2_with fail
  exact ret_row2 (by exact rfl) (((HB6.out.set 0 (.int .u64 r)).set 1 (.int .u64 b)).set 2 (.int .u64 t)) _ Tryz.underlying136 rfl infoBk (by exact rfl) ⟨rfl, ((HK2.out.set (p := ⟨w.heap.size + 1, 0, none⟩) (.inr (by show _ ≤ w.heap.size + 1; omega)) _).set (p := ⟨w.heap.size + 1, 1, none⟩) (.inr (by show _ ≤ w.heap.size + 1; omega)) _).set (p := ⟨w.heap.size + 1, 2, none⟩) (.inr (by show _ ≤ w.heap.size + 1; omega)) _⟩
set_option maxRecDepth 100000 in
set_option maxHeartbeats 2000000 in
theorem bTakeOk (r b t n : Nat) (h1 : 0 < r) (h2 : 0 < b) (h3 : t ≤ b) (hn : n ≤ t) (ht : t < 18446744073709551616) (w : World) : Calls Tryz.prog 75 #[.agg #[.int .u64 r, .int .u64 b, .int .u64 t], .int .u64 n] w fun e w' => e = .returned (.tuple #[.agg #[.int .u64 r, .int .u64 b, .int .u64 (t - n : Nat)], .bool true]) ∧ Kp none' w w' := by
  have hn' : ¬ (t : Int) < n := by omega
  obtain ⟨q, hq⟩ : ∃ q, t - n = q := ⟨_, rfl⟩
  have hqi : (t : Int) - n = q := by omega
  have hw : IntKind.u64.wrap (q : Int) = q := by rw [IntKind.wrap_u64]; omega
  rw [hq]
  clear hq
  go_enter Tryz.func75, Tryz.ntmps75
  go_wp2_with fail
  refine (bCheckOk r b t h1 h2 h3 _).mono ?_
  rintro e w2 ⟨rfl, hk⟩
  have hs1 : (w.alloc (.cells #[.int .u64 r, .int .u64 b, .int .u64 t] 136)).heap.size = w.heap.size + 1 := by simp
  have HB4 := Lib.hid (((Blk.new w [.int .u64 r, .int .u64 b, .int .u64 t] 136).alloc (.cells #[.int .u64 0, .int .u64 0, .int .u64 0] 136)).kp hk (fun x => x))
  have hB6 := (Blk.new (w.alloc (.cells #[.int .u64 r, .int .u64 b, .int .u64 t] 136)) [.int .u64 0, .int .u64 0, .int .u64 0] 136).kp hk (fun x => x)
  rw [hs1] at hB6
  have HB6 := Lib.hid hB6
  have HK2 := Lib.hid ((((Kp.refl none' w).alloc (.cells #[.int .u64 r, .int .u64 b, .int .u64 t] 136)).alloc (.cells #[.int .u64 0, .int .u64 0, .int .u64 0] 136)).trans hk)
  clear hB6 hk hs1
  have y0 := HB4.out.cell 0 rfl
  have y1 := HB4.out.cell 1 rfl
  have y2 := HB4.out.cell 2 rfl
  have yf := fun j => HB4.out.fz j
  have x0 := HB6.out.cell 0 rfl
  have x1 := HB6.out.cell 1 rfl
  have x2 := HB6.out.cell 2 rfl
  have xf := fun j => HB6.out.fz j
  go_wp2_with fail
  have hks : Kp none' w (w2.setCell ⟨w.heap.size, 2, none⟩ (.int .u64 (q : Int))) := HK2.out.set (p := ⟨w.heap.size, 2, none⟩) (.inr (Nat.le_refl _)) _
  have hx := (((HB6.out.setNe (a := ⟨w.heap.size, 2, none⟩) (by show w.heap.size + 1 ≠ w.heap.size; omega) (.int .u64 (q : Int))).set 0 (.int .u64 r)).set 1 (.int .u64 b)).set 2 (.int .u64 (q : Int))
  exact ret_row2 (by exact rfl) hx _ Tryz.underlying136 rfl infoBk (by exact rfl) ⟨rfl, ((hks.set (p := ⟨w.heap.size + 1, 0, none⟩) (.inr (by show _ ≤ w.heap.size + 1; omega)) _).set (p := ⟨w.heap.size + 1, 1, none⟩) (.inr (by show _ ≤ w.heap.size + 1; omega)) _).set (p := ⟨w.heap.size + 1, 2, none⟩) (.inr (by show _ ≤ w.heap.size + 1; omega)) _⟩

set_option maxHeartbeats 1000000 in
theorem kNextC (f : FlR) (id y : Nat) (w : World) (h : w.cell? ⟨y, 0, none⟩ = some (.int .u32 id)) (hy : y < w.heap.size) :
    Calls Tryz.prog 103 #[.agg #[.int .u32 f.id, .int .u64 f.cost, .int .u64 f.budget, .int .u64 f.size, .int .u64 f.cap], .pointer (some ⟨y, 0, none⟩)] w fun e w' => e = .returned (.bool (decide (f.id = id))) ∧ Kp none' w w' := by
  by_cases h1 : f.id = id
  · have h1' : ((f.id : Int) == (id : Int)) = true := by rw [beq_iff_eq]; omega
    rw [decide_eq_true h1]
    clear h1
    go_enter Tryz.func103, Tryz.ntmps103
    go_wp2
    go_ret
    exact ⟨rfl, (Kp.refl none' w).alloc _⟩
  · have h1' : ((f.id : Int) == (id : Int)) = false := by rw [beq_eq_false_iff_ne]; omega
    rw [decide_eq_false h1]
    clear h1
    go_enter Tryz.func103, Tryz.ntmps103
    go_wp2
    go_ret
    exact ⟨rfl, (Kp.refl none' w).alloc _⟩
set_option maxRecDepth 100000 in
set_option maxHeartbeats 4000000 in
theorem kIndex (l : List FlR) (id y : Nat) (v : Value) (w : World) (hS : Sl w v l.length 5 (l.flatMap enFl)) (h : w.cell? ⟨y, 0, none⟩ = some (.int .u32 id)) :
    Calls Tryz.prog 102 #[v, .func (.func 103) #[] #[.pointer (some ⟨y, 0, none⟩)]] w fun e w' => e = .returned (.int .i64 (findF l id)) ∧ Kp none' w w' := by
  obtain ⟨ao, cap, rfl⟩ : ∃ ao cap, v = .slice ao l.length cap := by obtain ⟨ao, cap, rfl, _⟩ := hS.is; exact ⟨_, _, rfl⟩
  have hmax := hS.max
  have HS := Lib.hid hS
  have HC := Lib.hid h
  clear hS h
  go_enter Tryz.func102, Tryz.ntmps102
  go_wp2_with fail
  go_loopw [8] (fun i wr => ∃ j : Nat, i = .int .i64 j ∧ j ≤ l.length ∧ Hid ((∀ q (hq : q < j) (hq2 : q < l.length), (l[q]'hq2).id ≠ id) ∧ Kp none' w wr)) (fun i _ => l.length - (intOf i).toNat)
  case atStart => exact ⟨0, rfl, Nat.zero_le _, fun q hq => by omega, Kp.refl _ _⟩
  case round =>
    obtain ⟨j, rfl, hj, HI⟩ := hrel
    by_cases hlt : j < l.length
    · obtain ⟨g, off, cap', e1, hc⟩ := (HS.out.old HI.out.2).at enFl_len (by decide) j hlt
      injection e1 with e1 _ e3
      subst e1 e3
      have hji : (j : Int) < l.length := by omega
      have hids : ∀ i (hi : i < j), (l[i]'(by omega)).id ≠ id := fun i hi => HI.out.1 i hi (by omega)
      have hfa := fun e => findF_at l id j hlt hids e
      have hst : l[j].id ≠ id → ∀ i (hi : i < j + 1) (hi2 : i < l.length), (l[i]'hi2).id ≠ id := fun e i hi hi2 => by
        by_cases e2 : i = j
        · subst e2; exact e
        · exact HI.out.1 i (by omega) hi2
      obtain ⟨o, ho⟩ : ∃ o, l[j] = o := ⟨_, rfl⟩
      rw [ho] at hc hfa hst
      have c0 : wr.cell? ⟨g, off + j * 5, none⟩ = some (.int .u32 o.id) := hc 0 _ rfl
      have c1 := hc 1 _ rfl
      have c2 := hc 2 _ rfl
      have c3 := hc 3 _ rfl
      have c4 := hc 4 _ rfl
      have hyc := HI.out.2.cell HC.out (fun x => x)
      have HN := Lib.hid (kNextC o id y wr hyc (World.block_lt_of_cell? _ _ hyc))
      clear hc ho hids hyc
      by_cases hcv : o.id = id
      · rw [decide_eq_true hcv] at HN
        have HE := Lib.hid (hfa hcv)
        clear hcv hfa hst
        go_wp2_with (go_at_call 103; refine HN.out.mono ?_; rintro e w1 ⟨rfl, hk1⟩; have HK1 := Lib.hid (HI.out.2.trans hk1); clear hk1)
        go_ret
        exact ⟨by rw [HE.out]; rfl, HK1.out⟩
      · rw [decide_eq_false hcv] at HN
        have HE := Lib.hid (hst hcv)
        clear hcv hfa hst
        go_wp2_with (go_at_call 103; refine HN.out.mono ?_; rintro e w1 ⟨rfl, hk1⟩; have HK1 := Lib.hid (HI.out.2.trans hk1); clear hk1)
        go_roundw
        case rel => exact ⟨j + 1, by go_num, by omega, HE.out, HK1.out⟩
        case measure => simp [intOf]; omega
    · have hjn : j = l.length := by omega
      have HE := Lib.hid (findF_none l id (fun i hi => HI.out.1 i (by omega) hi))
      subst hjn
      go_wp2_with fail
      go_ret
      exact ⟨by rw [HE.out]; rfl, HI.out.2⟩
set_option maxHeartbeats 4000000 in
theorem kClone (l : List FlR) (hl : l.length ≤ 64) (h0 : 0 < l.length) (v : Value) (w : World) (h : Sl w v l.length 5 (l.flatMap enFl)) : Calls Tryz.prog 116 #[v] w fun e w' => ∃ v', e = .returned v' ∧ w'.ownsRow w.heap.size 158 5 v' l.length (l.flatMap enFl) ∧ Kp none' w w' := by
  obtain ⟨ao, cap, rfl⟩ : ∃ ao cap, v = .slice ao l.length cap := by obtain ⟨ao, cap, rfl, _⟩ := h.is; exact ⟨_, _, rfl⟩
  have HS := Lib.hid h
  have HOF := Lib.hid (one_fl l)
  cases ao with
  | none =>
    exfalso
    obtain ⟨ao, cap', e, hc⟩ := h.is
    have hlen := h.len
    obtain ⟨b, off, e2, _⟩ := hc 0 _ (List.getElem?_eq_getElem (show 0 < (l.flatMap enFl).length by omega))
    cases e
    cases e2
  | some ad =>
    clear h
    have hnil : ∀ W : World, (binOp BinOp.eql 74 (.slice (some ad) l.length cap) (.slice none 0 0)).run Tryz.prog W = .ok (.bool false) W := fun _ => by kernel_rfl
    have hs2 := HS.out.old ((Kp.refl none' w).alloc (.cells #[] 158))
    have HS2 := Lib.hid hs2
    clear hs2
    go_enter Tryz.func116, Tryz.ntmps116
    go_wp2_with (first
      | (refine wp_appSl tFlw (.tmp 5) (.tmp 6) rfl rfl w.heap.size (own_zero w 158 5) rfl rfl HS2.out HOF.out (by omega) (by omega) (by simp) ?_; intro v8 w8 hown8 hgrow8
         have hk8 := ((Kp.refl none' w).alloc (.cells #[] 158)).grown hgrow8 (fun b hb => .inr (by cases hb; exact Nat.le_refl _))
         obtain ⟨ao8, cap8, rfl⟩ := own_shape hown8
         have HK8 := Lib.hid hk8
         have HO8 := Lib.hid hown8
         clear hown8 hgrow8 hk8))
    go_ret
    exact ⟨_, rfl, by have := HO8.out; simpa using this, HK8.out⟩

structure Rk where
  kind : Int
  fl : List FlR
  tags : List Nat
  virt : Nat
def tagF (kind : Int) (f : FlR) : Nat := if kind = 3 then f.size else 0
structure Rk.Ok (r : Rk) : Prop where
  kind : 1 ≤ r.kind ∧ r.kind ≤ 3
  len : r.tags.length = r.fl.length
  few : 1 ≤ r.fl.length ∧ r.fl.length ≤ 64
  fok : ∀ f ∈ r.fl, f.ok
  tok : ∀ t ∈ r.tags, t < 18446744073709551616
  vok : r.virt < 18446744073709551616
def eN8 (n : Nat) : Value := .int .u64 n
def RMem (w : World) (F : Nat → Prop) (rb : Nat) (r : Rk) : Prop := ∃ v1 v2, F = (fun b => b = rb ∨ v1.ownBlock = some b ∨ v2.ownBlock = some b) ∧ Blk w rb [.int .i64 r.kind, v1, v2, .int .u64 r.virt] 227 ∧
  w.ownsRow 0 158 5 v1 r.fl.length (r.fl.flatMap enFl) ∧ w.ownsRow 0 22 1 v2 r.tags.length (r.tags.map eN8) ∧ r.Ok
theorem RMem.kp {T : Nat → Prop} {w w' : World} {F : Nat → Prop} {rb : Nat} {r : Rk} (h : RMem w F rb r) (k : Kp T w w') (hT : ∀ b, F b → ¬ T b) : RMem w' F rb r := by
  obtain ⟨v1, v2, rfl, hb, h1, h2, ok⟩ := h
  exact ⟨v1, v2, rfl, hb.kp k (hT _ (.inl rfl)), own_kp h1 k (fun b hb => hT b (.inr (.inl hb))), own_kp h2 k (fun b hb => hT b (.inr (.inr hb))), ok⟩
theorem RMem.old {w w' : World} {F : Nat → Prop} {rb : Nat} {r : Rk} (h : RMem w F rb r) (k : Kp none' w w') : RMem w' F rb r := h.kp k (fun _ _ x => x)
theorem RMem.lt {w : World} {F : Nat → Prop} {rb : Nat} {r : Rk} (h : RMem w F rb r) {b : Nat} (hb : F b) : b < w.heap.size := by
  obtain ⟨v1, v2, rfl, hb', h1, h2, ok⟩ := h
  rcases hb with rfl | hb | hb
  · exact hb'.lt
  · exact (own_block h1 hb).2
  · exact (own_block h2 hb).2
theorem RMem.ok {w : World} {F : Nat → Prop} {rb : Nat} {r : Rk} (h : RMem w F rb r) : r.Ok := by
  obtain ⟨_, _, _, _, _, _, ok⟩ := h; exact ok
structure NwJ (w wr : World) (rb : Nat) (kind : Int) (l : List FlR) (fv v2 : Value) (k : Nat) : Prop where
  blk : Blk wr rb [.int .i64 kind, fv, v2, .int .u64 0] 227
  fls : wr.ownsRow w.heap.size 158 5 fv l.length (l.flatMap enFl)
  own : wr.ownsRow w.heap.size 22 1 v2 k (((l.take k).map (tagF kind)).map eN8)
  kp : Kp none' w wr
set_option maxRecDepth 100000 in
set_option maxHeartbeats 4000000 in
theorem kNew (kind : Int) (hk : 1 ≤ kind ∧ kind ≤ 3) (l : List FlR) (v : Value) (w : World) (h : Sl w v l.length 5 (l.flatMap enFl)) (hfe : flowsE l = 0) (hfok : ∀ f ∈ l, f.ok) : Calls Tryz.prog 86 #[.int .i64 kind, v] w fun e w' => ∃ F rb, e = .returned (.tuple #[.pointer (some ⟨rb, 0, none⟩), .int .i64 0]) ∧ RMem w' F rb ⟨kind, l, l.map (tagF kind), 0⟩ ∧ (∀ b, F b → w.heap.size ≤ b) ∧ Kp none' w w' := by
  obtain ⟨ao, cap, rfl⟩ : ∃ ao cap, v = .slice ao l.length cap := by obtain ⟨ao, cap, rfl, _⟩ := h.is; exact ⟨_, _, rfl⟩
  have HS := Lib.hid h
  have hlen : 1 ≤ l.length ∧ l.length ≤ 64 ∧ (idsF l).Nodup := by
    unfold flowsE at hfe
    split at hfe
    · omega
    · split at hfe
      · rename_i h1 h2; exact ⟨by omega, by omega, h2⟩
      · omega
  have HFO := Lib.hid hfok
  have hk1 : ¬ kind < 1 := by omega
  have hk3 : ¬ 3 < kind := by omega
  have e1 : ((l.length : Int) == 0) = false := by rw [beq_eq_false_iff_ne]; omega
  have h64i : ¬ (64 : Int) < l.length := by omega
  have HT := Lib.hid (gTwice l hlen.2.1 (.slice ao l.length cap) w h)
  have HCL := Lib.hid (fun W hs => kClone l hlen.2.1 (by omega) (.slice ao l.length cap) W hs)
  have hd : (!decide (idsF l).Nodup) = false := by simp [hlen.2.2]
  rw [hd] at HT
  have hl64 : l.length ≤ 64 := hlen.2.1
  have HL1 := Lib.hid hlen.1
  clear h hfe hfok hlen hd
  have HKK := Lib.hid hk
  clear hk
  go_enter Tryz.func86, Tryz.ntmps86
  go_wp2_with fail
  refine (HT.out).mono ?_
  rintro e w1 ⟨rfl, k1⟩
  have HK1 := Lib.hid k1
  clear k1 HT
  go_wp2_with fail
  refine (HCL.out _ (HS.out.old HK1.out)).mono ?_
  rintro e w2 ⟨fv, rfl, ho2, k2⟩
  obtain ⟨fo, fc, hfv⟩ := own_shape ho2
  subst hfv
  have HK2 := Lib.hid (HK1.out.trans k2)
  have HO2 := Lib.hid (own_base ho2 HK1.out.size)
  clear k2 HCL ho2
  go_wp2_with fail
  have hz2 := HK2.out.size
  have hb3' : Blk (w2.alloc (.cells #[.int .i64 kind, .slice fo l.length fc, .slice none 0 0, .int .u64 0] 227)) w2.heap.size [.int .i64 kind, .slice fo l.length fc, .slice none 0 0, .int .u64 0] 227 := Blk.new w2 [.int .i64 kind, .slice fo l.length fc, .slice none 0 0, .int .u64 0] 227
  have hk3' : Kp none' w (w2.alloc (.cells #[.int .i64 kind, .slice fo l.length fc, .slice none 0 0, .int .u64 0] 227)) := HK2.out.alloc (.cells #[.int .i64 kind, .slice fo l.length fc, .slice none 0 0, .int .u64 0] 227)
  have ho3 := own_kp HO2.out ((Kp.refl none' w2).alloc (.cells #[.int .i64 kind, .slice fo l.length fc, .slice none 0 0, .int .u64 0] 227)) (fun _ _ x => x)
  generalize w2.alloc (.cells #[.int .i64 kind, .slice fo l.length fc, .slice none 0 0, .int .u64 0] 227) = w3 at *
  obtain ⟨rb, hrb⟩ : ∃ rb, w2.heap.size = rb := ⟨_, rfl⟩
  rw [hrb] at hb3' hz2 ⊢
  have HI0 : Hid (NwJ w w3 rb kind l (.slice fo l.length fc) (.slice none 0 0) 0) := ⟨hb3', ho3, ⟨rfl, .inl ⟨rfl, rfl⟩⟩, hk3'⟩
  clear hb3' hk3' ho3 hrb HK2 HO2
  go_loopw [36] (fun i0 wr => ∃ (k : Nat) (v2 : Value), i0 = .int .i64 k ∧ k ≤ l.length ∧ Hid (NwJ w wr rb kind l (.slice fo l.length fc) v2 k)) (fun i0 _ => l.length - (intOf i0).toNat)
  case atStart => exact ⟨0, _, rfl, by omega, HI0.out⟩
  case round =>
    clear HI0
    obtain ⟨k, v2, rfl, hk, hr⟩ := hrel
    by_cases hlt : k < l.length
    · have hki : (k : Int) < l.length := by omega
      obtain ⟨gx, ox, cx, e1, hcx⟩ := (HS.out.old hr.out.kp).at enFl_len (by decide) k hlt
      injection e1 with e1 _ e3
      subst e1 e3
      have HTK : Hid (((l.take (k + 1)).map (tagF kind)).map eN8 = ((l.take k).map (tagF kind)).map eN8 ++ [.int .u64 (tagF kind l[k])]) := by
        show _ = _
        rw [List.take_succ_eq_append_getElem hlt, List.map_append, List.map_append]; rfl
      obtain ⟨f, hf⟩ : ∃ f, l[k] = f := ⟨_, rfl⟩
      rw [hf] at hcx HTK
      have d0 := hcx 0 _ rfl
      have d1 := hcx 1 _ rfl
      have d2 := hcx 2 _ rfl
      have d3 := hcx 3 _ rfl
      have d4 := hcx 4 _ rfl
      simp only [Nat.add_zero] at d0
      have hzr := hr.out.kp.size
      obtain ⟨tg, htg⟩ : ∃ tg, tagF kind f = tg := ⟨_, rfl⟩
      rw [htg] at HTK
      have hba := hr.out.blk.alloc (.cells #[.int .u32 f.id, .int .u64 f.cost, .int .u64 f.budget, .int .u64 f.size, .int .u64 f.cap] 158)
      have c2 := hba.cell 2 rfl
      have hba2 := hba.alloc (.cells #[.int .u64 tg] 22)
      have HBA := Lib.hid hba2
      have hks := ((Kp.refl none' wr).alloc (.cells #[.int .u32 f.id, .int .u64 f.cost, .int .u64 f.budget, .int .u64 f.size, .int .u64 f.cap] 158)).alloc (.cells #[.int .u64 tg] 22)
      have HOA := Lib.hid (own_kp (S := none') hr.out.own hks (fun _ _ x => x))
      have HFA := Lib.hid (own_kp (S := none') hr.out.fls hks (fun _ _ x => x))
      have HKA := Lib.hid (hr.out.kp.trans hks)
      have HNE := Lib.hid (own_ne_blk hr.out.own hr.out.blk (by decide))
      have HNF := Lib.hid (own_ne_own hr.out.fls hr.out.own (by decide))
      clear hcx hf hba hba2 hks
      by_cases h3 : kind = 3
      · have htg3 : f.size = tg := by rw [← htg]; unfold tagF; rw [if_pos h3]
        have h3' : (kind == 3) = true := by rw [beq_iff_eq]; exact h3
        rw [← htg3] at HTK HBA HOA HFA HKA
        clear htg htg3 h3
        go_wp2_with (first
          | (refine wp_app1 tU64 (.tmp 48) (.tmp 50) rfl rfl w.heap.size (v := v2) HOA.out [.int .u64 f.size] rfl rfl rfl (fr := (0, 0)) (heap_newC _ _ (by simp)) rfl (by omega) (by omega) (by simp; omega) ?_; intro g8 cap8 w8 hown8 hgrow8
             have hk8 := HKA.out.grown hgrow8 (fun b hb => .inr (own_block HOA.out hb).1)
             have hb8 := HBA.out.grown hgrow8 (fun e => HNE.out e.symm)
             have hf8 := own_grownF HFA.out hgrow8 (fun b hb e => HNF.out b hb e)
             have x2 := hb8.cell 2 rfl
             have z2 := hb8.fz 2
             have HK8 := Lib.hid hk8; have HB8 := Lib.hid hb8; have HO8 := Lib.hid hown8; have HF8 := Lib.hid hf8
             clear hown8 hgrow8 hk8 hb8 hf8))
        have hown9 := own_setNe HO8.out (a := ⟨rb, 2, none⟩) (fun b hb e => own_ne_blk HO8.out HB8.out (by decide) (by rw [hb]; exact congrArg some e)) (.slice (some ⟨g8, 0, none⟩) (k + 1) cap8)
        have hfls9 := own_setNe HF8.out (a := ⟨rb, 2, none⟩) (fun b hb e => own_ne_blk HF8.out HB8.out (by decide) (by rw [hb]; exact congrArg some e)) (.slice (some ⟨g8, 0, none⟩) (k + 1) cap8)
        have hr9 : NwJ w (w8.setCell ⟨rb, 2, none⟩ (.slice (some ⟨g8, 0, none⟩) (k + 1) cap8)) rb kind l (.slice fo l.length fc) (.slice (some ⟨g8, 0, none⟩) (k + 1) cap8) (k + 1) :=
          ⟨HB8.out.set 2 _, hfls9, by rw [HTK.out]; exact hown9, HK8.out.set (p := ⟨rb, 2, none⟩) (.inr hz2) _⟩
        have HR9 := Lib.hid hr9
        clear hown9 hr9 hfls9
        go_roundw
        case rel => exact ⟨k + 1, _, by go_num, by omega, HR9.out⟩
        case measure => simp [intOf]; omega
      · have htg3 : 0 = tg := by rw [← htg]; unfold tagF; rw [if_neg h3]
        have h3' : (kind == 3) = false := by rw [beq_eq_false_iff_ne]; exact h3
        subst htg3
        clear htg h3
        go_wp2_with (first
          | (refine wp_app1 tU64 (.tmp 48) (.tmp 50) rfl rfl w.heap.size (v := v2) HOA.out [.int .u64 0] rfl rfl rfl (fr := (0, 0)) (heap_newC _ _ (by simp)) rfl (by omega) (by omega) (by simp; omega) ?_; intro g8 cap8 w8 hown8 hgrow8
             have hk8 := HKA.out.grown hgrow8 (fun b hb => .inr (own_block HOA.out hb).1)
             have hb8 := HBA.out.grown hgrow8 (fun e => HNE.out e.symm)
             have hf8 := own_grownF HFA.out hgrow8 (fun b hb e => HNF.out b hb e)
             have x2 := hb8.cell 2 rfl
             have z2 := hb8.fz 2
             have HK8 := Lib.hid hk8; have HB8 := Lib.hid hb8; have HO8 := Lib.hid hown8; have HF8 := Lib.hid hf8
             clear hown8 hgrow8 hk8 hb8 hf8))
        have hown9 := own_setNe HO8.out (a := ⟨rb, 2, none⟩) (fun b hb e => own_ne_blk HO8.out HB8.out (by decide) (by rw [hb]; exact congrArg some e)) (.slice (some ⟨g8, 0, none⟩) (k + 1) cap8)
        have hfls9 := own_setNe HF8.out (a := ⟨rb, 2, none⟩) (fun b hb e => own_ne_blk HF8.out HB8.out (by decide) (by rw [hb]; exact congrArg some e)) (.slice (some ⟨g8, 0, none⟩) (k + 1) cap8)
        have hr9 : NwJ w (w8.setCell ⟨rb, 2, none⟩ (.slice (some ⟨g8, 0, none⟩) (k + 1) cap8)) rb kind l (.slice fo l.length fc) (.slice (some ⟨g8, 0, none⟩) (k + 1) cap8) (k + 1) :=
          ⟨HB8.out.set 2 _, hfls9, by rw [HTK.out]; exact hown9, HK8.out.set (p := ⟨rb, 2, none⟩) (.inr hz2) _⟩
        have HR9 := Lib.hid hr9
        clear hown9 hr9 hfls9
        go_roundw
        case rel => exact ⟨k + 1, _, by go_num, by omega, HR9.out⟩
        case measure => simp [intOf]; omega
    · have hke : k = l.length := by omega
      subst hke
      go_wp2
      go_ret2
      have hfin := hr.out
      refine ⟨_, rb, rfl, ⟨.slice fo l.length fc, v2, rfl, hfin.blk, own_base hfin.fls (Nat.zero_le _), ?_, ⟨HKK.out, by simp, ⟨HL1.out, hl64⟩, HFO.out, fun t ht => ?_, by show 0 < _; omega⟩⟩, fun b hb => ?_, hfin.kp⟩
      · have := own_base hfin.own (Nat.zero_le _)
        rw [List.take_length] at this
        simpa using this
      · obtain ⟨f, hf, rfl⟩ := List.mem_map.1 ht
        have := HFO.out f hf
        unfold tagF; split
        · exact this.size
        · omega
      · rcases hb with rfl | hb | hb
        · exact hz2
        · exact (own_block hfin.fls hb).1
        · exact (own_block hfin.own hb).1
end Go.Proofs.YtfckgddodjmbdaaGreatDoor
