/- Walks of layer 27: spans. -/
import Derived.Test.YthjapdjglifopaaFairY
import Derived.Test.YthjapdjglifopaaFairV
namespace Go.Proofs.Ythjapdjglifopaa
set_option linter.unusedVariables false
set_option linter.unusedSimpArgs false
open Go.RowKit Go.Shelf

set_option maxRecDepth 100000 in
set_option maxHeartbeats 4000000 in
theorem fBothOut (fl : List FlR) (l : List RpR) (hfn : fl.length ≤ 1000) (hln : l.length ≤ 1000) (f g : Int) (ho : outB fl f g = true) (u v : Value) (w : World) (h1 : Sl w u fl.length 5 (fl.flatMap enFl)) (h2 : Sl w v l.length 42 (l.flatMap enQ)) :
    Calls Try.prog 39 #[u, v, .int .i64 f, .int .i64 g] w fun e w' => ∃ r, e = .returned r ∧ w'.ownsRow w.heap.size 4 1 r l.length ((bitsF fl l f g).flatMap enB) ∧ Kp none' w w' := by
  obtain ⟨ao, acap, rfl⟩ : ∃ ao cap, u = .slice ao fl.length cap := by obtain ⟨ao, cap, rfl, _⟩ := h1.is; exact ⟨_, _, rfl⟩
  obtain ⟨bo, bcap, rfl⟩ : ∃ ao cap, v = .slice ao l.length cap := by obtain ⟨ao, cap, rfl, _⟩ := h2.is; exact ⟨_, _, rfl⟩
  have hm1 := run_make_flat tBits enB enB_len false rfl l.length (by omega) (by omega) w
  rw [outsV_nil fl l f g, outsV_out fl l f g ho, outsV_all] at hm1
  have HF : Hid ((w.alloc (.cells ((bitsF fl l f g).flatMap enB).toArray 4)).ownsRow w.heap.size 4 1 (.slice (some ⟨w.heap.size, 0, none⟩) l.length l.length) l.length ((bitsF fl l f g).flatMap enB)) :=
    own_blk (Blk.new w _ _) 1 l.length _ (by rw [flat_len enB 1 enB_len, bitsF_len]) (by omega) (Nat.le_refl _)
  have HK : Hid (Kp none' w (w.alloc (.cells ((bitsF fl l f g).flatMap enB).toArray 4))) := (Kp.refl _ _).alloc _
  clear h1 h2
  by_cases a1 : f < 0
  · go_enter Try.func39, Try.ntmps39
    go_wp2
    go_ret
    exact ⟨_, rfl, HF.out, HK.out⟩
  by_cases a2 : g < 0
  · go_enter Try.func39, Try.ntmps39
    go_wp2
    go_ret
    exact ⟨_, rfl, HF.out, HK.out⟩
  by_cases a3 : (fl.length : Int) ≤ f
  · go_enter Try.func39, Try.ntmps39
    go_wp2
    go_ret
    exact ⟨_, rfl, HF.out, HK.out⟩
  by_cases a4 : (fl.length : Int) ≤ g
  · go_enter Try.func39, Try.ntmps39
    go_wp2
    go_ret
    exact ⟨_, rfl, HF.out, HK.out⟩
  have b5 : (f == g) = true := by
    unfold outB at ho
    rw [decide_eq_false a1, decide_eq_false a2, decide_eq_false a3, decide_eq_false a4] at ho
    simpa using ho
  clear ho
  go_enter Try.func39, Try.ntmps39
  go_wp2
  go_ret
  exact ⟨_, rfl, HF.out, HK.out⟩
theorem fBoth (fl : List FlR) (l : List RpR) (hq : ∀ q ∈ l, q.ok) (hfn : fl.length ≤ 1000) (hln : l.length ≤ 1000) (f g : Int) (u v : Value) (w : World) (h1 : Sl w u fl.length 5 (fl.flatMap enFl)) (h2 : Sl w v l.length 42 (l.flatMap enQ)) :
    Calls Try.prog 39 #[u, v, .int .i64 f, .int .i64 g] w fun e w' => ∃ r, e = .returned r ∧ w'.ownsRow w.heap.size 4 1 r l.length ((bitsF fl l f g).flatMap enB) ∧ Kp none' w w' := by
  cases ho : outB fl f g with
  | true => exact fBothOut fl l hfn hln f g ho u v w h1 h2
  | false =>
    unfold outB at ho
    simp only [Bool.or_eq_false_iff, decide_eq_false_iff_not] at ho
    obtain ⟨a, rfl⟩ : ∃ a : Nat, f = a := ⟨f.toNat, by omega⟩
    obtain ⟨b, rfl⟩ : ∃ a : Nat, g = a := ⟨g.toNat, by omega⟩
    exact fBothIn fl l hq hfn hln a b (by omega) (by omega) (by omega) u v w h1 h2

/-- What the loop keeps. -/
structure SfI (bs : List Bool) (B : Nat) (w1 wr : World) (r : Value) (op : Bool) (j : Nat) (xs : List (Nat × Nat)) : Prop where
  eq : spF xs op j (bs.drop j) = spF [] false 0 bs
  own : wr.ownsRow B 24 2 r xs.length (xs.flatMap enSp)
  kp : Kp none' w1 wr
  pos : op = true → 0 < xs.length
theorem sf_step {bs : List Bool} {op : Bool} {j : Nat} {xs : List (Nat × Nat)} (eq : spF xs op j (bs.drop j) = spF [] false 0 bs) (hj : j < bs.length) : spF (spS xs op j bs[j]) bs[j] (j + 1) (bs.drop (j + 1)) = spF [] false 0 bs := by
  rw [List.drop_eq_getElem_cons hj] at eq
  exact eq
theorem setEnd_flat (xs : List (Nat × Nat)) (j : Nat) (h : 0 < xs.length) : (setEnd xs j).flatMap enSp = (xs.flatMap enSp).set ((xs.length - 1) * 2 + 1) (.int .i64 j) := by
  obtain ⟨s, hs⟩ : ∃ s, xs[xs.length - 1]? = some s := ⟨_, List.getElem?_eq_getElem (by omega)⟩
  have := flat_set1 enSp 2 enSp_len xs (xs.length - 1) (s.1, j) s 1 (.int .i64 j) (by omega) hs (by simp [enSp])
  rw [← this]
  unfold setEnd
  rw [List.getD_eq_getElem?_getD, hs]; rfl
theorem setEnd_len (xs : List (Nat × Nat)) (j : Nat) : (setEnd xs j).length = xs.length := by simp [setEnd]

set_option maxRecDepth 100000 in
set_option maxHeartbeats 4000000 in
theorem fSpans (fl : List FlR) (l : List RpR) (hq : ∀ q ∈ l, q.ok) (hfn : fl.length ≤ 1000) (hln : l.length ≤ 1000) (f g : Int) (u v : Value) (w : World) (h1 : Sl w u fl.length 5 (fl.flatMap enFl)) (h2 : Sl w v l.length 42 (l.flatMap enQ)) :
    Calls Try.prog 12 #[u, v, .int .i64 f, .int .i64 g] w fun e w' => ∃ r, e = .returned r ∧ w'.ownsRow w.heap.size 24 2 r (spans fl l f g).length ((spans fl l f g).flatMap enSp) ∧ Kp none' w w' := by
  have HA := Lib.hid (fBoth fl l hq hfn hln f g u v w h1 h2)
  have HSP : Hid (spans fl l f g = spF [] false 0 (bitsF fl l f g)) := (spF_eq _).symm
  have hbl := bitsF_len fl l f g
  generalize spans fl l f g = sp at *
  generalize bitsF fl l f g = bs at *
  have HBL := Lib.hid hbl
  clear h1 h2 hbl
  go_enter Try.func12, Try.ntmps12
  go_wp2_with fail
  refine (HA.out).mono ?_
  rintro e w1 ⟨r0, rfl, hb, k1⟩
  obtain ⟨ro, rcap, rfl⟩ := own_shape hb
  have HB := Lib.hid hb; have HK1 := Lib.hid k1
  clear hb k1
  go_wp2_with fail
  go_loopw [9, 10, 19] (fun r o0 i0 wr => ∃ j xs op, i0 = .int .i64 (j : Nat) ∧ o0 = .bool op ∧ j ≤ l.length ∧ xs.length ≤ j ∧ Hid (SfI bs w1.heap.size w1 wr r op j xs)) (fun _ _ i0 _ => l.length - (intOf i0).toNat)
  case atStart => exact ⟨0, [], false, rfl, rfl, by omega, by simp, rfl, World.ownsRow_nil _ _ _ _, Kp.refl _ _, by simp⟩
  case round =>
    obtain ⟨j, xs, op, rfl, rfl, hj, hx, hr⟩ := hrel
    have hsh := own_shape hr.out.own
    have HOR := Lib.hid hr.out.own; have HKR := Lib.hid hr.out.kp; have HPO := Lib.hid hr.out.pos
    have hsz := hr.out.kp.size
    by_cases hlt : j < l.length
    · have hji : (j : Int) < l.length := by omega
      obtain ⟨b0, c0, hs0, hb0⟩ := own_shape1 HB.out (by omega)
      injection hs0 with hs0 _ hs1
      subst hs0 hs1
      have hjb : j < bs.length := by rw [HBL.out]; exact hlt
      have hst := sf_step hr.out.eq hjb
      have hc0 := own_cell (own_kp (S := none') HB.out hr.out.kp (fun _ _ h => h)) j (u := .bool bs[j]) (by
        have := flat_get enB 1 enB_len bs j 0 (by omega)
        rw [Nat.mul_one, Nat.add_zero, List.getElem?_eq_getElem hjb] at this
        exact this)
      obtain ⟨b, hbb⟩ : ∃ b, bs[j] = b := ⟨_, rfl⟩
      rw [hbb] at hst hc0
      have HST := Lib.hid hst
      obtain ⟨ao, acap, rfl⟩ := hsh
      clear hst hr hbb
      cases b with
      | false =>
        cases op with
        | false =>
          go_wp2_with fail
          go_roundw
          case rel => exact ⟨j + 1, xs, false, by go_num, rfl, by omega, by omega, HST.out, HOR.out, HKR.out, by simp⟩
          case measure => simp [intOf]; omega
        | true =>
          go_wp2_with fail
          go_roundw
          case rel => exact ⟨j + 1, xs, false, by go_num, rfl, by omega, by omega, HST.out, HOR.out, HKR.out, by simp⟩
          case measure => simp [intOf]; omega
      | true =>
        cases op with
        | false =>
          go_wp2_with (at_builtin; refine wp_app1 tSp (.tmp 38) (.tmp 42) rfl rfl w1.heap.size (HOR.out.alloc _) (enSp (j, j)) rfl rfl rfl (heap_new _ _) rfl (by omega) (by omega) (by simp; omega) ?_)
          intro g2 cap2 w7 hown hgrow
          have HF : Hid (SfI bs w1.heap.size w1 w7 (.slice (some ⟨g2, 0, none⟩) (xs.length + 1) cap2) true (j + 1) (xs ++ [(j, j)])) :=
            ⟨HST.out, by rw [List.length_append, List.flatMap_append]; simpa using hown, (HKR.out.alloc _).grown hgrow (fun b hb => .inr (by have := (own_block HOR.out hb); omega)), by simp⟩
          clear hown hgrow
          go_wp2_with fail
          go_roundw
          case rel => exact ⟨j + 1, xs ++ [(j, j)], true, by go_num, rfl, by omega, by simp; omega, HF.out⟩
          case measure => simp [intOf]; omega
        | true =>
          have hp := HPO.out rfl
          obtain ⟨m, hm⟩ : ∃ m, xs.length = m + 1 := ⟨xs.length - 1, by omega⟩
          obtain ⟨g2, cap2, hs2, hb2⟩ := own_shape1 HOR.out (by omega)
          injection hs2 with hs2 _ hs3
          subst hs2 hs3
          have hse := setEnd_flat xs j hp
          have hcell := flat_get enSp 2 enSp_len xs m 1 (by omega)
          rw [List.getElem?_eq_getElem (l := xs) (i := m) (by omega)] at hcell
          have q1 := own_cell HOR.out (m * 2 + 1) (hcell.trans rfl)
          have q2 := own_fz HOR.out (m * 2 + 1)
          have hown := own_set HOR.out (m * 2 + 1) (.int .i64 j)
          rw [hm] at hse
          simp only [Nat.add_sub_cancel] at hse
          rw [← hse] at hown
          have HF : Hid (SfI bs w1.heap.size w1 _ (.slice (some ⟨g2, 0, none⟩) xs.length acap) true (j + 1) (setEnd xs j)) :=
            ⟨HST.out, by rw [setEnd_len]; exact hown, HKR.out.set (p := ⟨g2, m * 2 + 1, none⟩) (.inr hb2) (.int .i64 j), by rw [setEnd_len]; simpa using hp⟩
          have HLS := Lib.hid (setEnd_len xs j)
          clear hse hcell hown hp
          rw [hm] at HF ⊢
          go_wp2_with fail
          go_roundw
          case rel => exact ⟨j + 1, setEnd xs j, true, by go_num, rfl, by omega, by rw [HLS.out]; omega, HF.out⟩
          case measure => simp [intOf]; omega
    · have hjl : j = l.length := by omega
      have he := hr.out.eq
      rw [List.drop_of_length_le (by rw [HBL.out]; omega)] at he
      have HF : Hid (xs = sp) := by show _ = _; rw [HSP.out, ← he]; rfl
      have HZ := Lib.hid HK1.out.size
      have HKF := Lib.hid (HK1.out.trans HKR.out)
      clear hr he
      go_wp2_with fail
      go_ret
      refine ⟨_, rfl, ?_, HKF.out⟩
      rw [← HF.out]
      exact own_base HOR.out HZ.out
end Go.Proofs.Ythjapdjglifopaa
