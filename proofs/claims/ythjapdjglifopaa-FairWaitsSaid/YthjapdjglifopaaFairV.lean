/- Walks of layer 27, the document's: spans. -/
import Derived.Test.YthjapdjglifopaaFairU
namespace Go.Proofs.Ythjapdjglifopaa
set_option linter.unusedVariables false
set_option linter.unusedSimpArgs false
open Go.RowKit Go.Shelf

theorem tSp : SlT Try.prog 34 24 (.agg #[.int .i64 0, .int .i64 0]) 2 16 := ⟨Try.underlying34, by kernel_rfl, rfl, by decide⟩
theorem bitI_get (bs : List Bool) (i : Nat) (h : i < bs.length) : bitI bs i = bs[i] := by
  unfold bitI; rw [List.getD_eq_getElem?_getD, Int.toNat_natCast, List.getElem?_eq_getElem h]; simp
/-- What the loop keeps. -/
structure SpI (bs : List Bool) (w wr : World) (r : Value) (i : Nat) (xs : List (Nat × Nat)) : Prop where
  eq : xs ++ spR (bitI bs ((i : Int) - 1)) i (bs.drop i) = spR false 0 bs
  own : wr.ownsRow w.heap.size 24 2 r xs.length (xs.flatMap enSp)
  kp : Kp none' w wr
theorem SpI.skip {bs : List Bool} {i : Nat} {xs : List (Nat × Nat)} (eq : xs ++ spR (bitI bs ((i : Int) - 1)) i (bs.drop i) = spR false 0 bs) (hi : i < bs.length) (h : ¬ (bitI bs i = true ∧ bitI bs ((i : Int) - 1) = false)) : xs ++ spR (bitI bs (((i + 1 : Nat) : Int) - 1)) (i + 1) (bs.drop (i + 1)) = spR false 0 bs := by
  rw [spR_step bs _ i hi] at eq
  rw [show ((i + 1 : Nat) : Int) - 1 = i from by omega, bitI_get bs i hi]
  rw [bitI_get bs i hi] at h
  rw [if_neg h] at eq
  exact eq
theorem SpI.put {bs : List Bool} {i : Nat} {xs : List (Nat × Nat)} (eq : xs ++ spR (bitI bs ((i : Int) - 1)) i (bs.drop i) = spR false 0 bs) (hi : i < bs.length) (h : bitI bs i = true ∧ bitI bs ((i : Int) - 1) = false) {k : Nat} (hk : i + ((bs.drop (i + 1)).takeWhile id).length = k) : (xs ++ [(i, k)]) ++ spR (bitI bs (((i + 1 : Nat) : Int) - 1)) (i + 1) (bs.drop (i + 1)) = spR false 0 bs := by
  rw [spR_step bs _ i hi] at eq
  rw [show ((i + 1 : Nat) : Int) - 1 = i from by omega, bitI_get bs i hi]
  rw [bitI_get bs i hi] at h
  rw [if_pos h, hk, ← List.append_assoc] at eq
  exact eq
theorem SpI.fin {bs : List Bool} {i : Nat} {xs : List (Nat × Nat)} (eq : xs ++ spR (bitI bs ((i : Int) - 1)) i (bs.drop i) = spR false 0 bs) (hi : bs.length ≤ i) : xs = spR false 0 bs := by
  rw [List.drop_of_length_le hi] at eq
  rw [← eq]; simp [spR]

set_option maxRecDepth 100000 in
set_option maxHeartbeats 4000000 in
theorem rSpans (fl : List FlR) (l : List RpR) (hq : ∀ q ∈ l, q.ok) (hfn : fl.length ≤ 1000) (hln : l.length ≤ 1000) (f g : Int) (u v : Value) (w : World) (h1 : Sl w u fl.length 5 (fl.flatMap enFl)) (h2 : Sl w v l.length 42 (l.flatMap enQ)) :
    Calls Try.prog 13 #[u, v, .int .i64 f, .int .i64 g] w fun e w' => ∃ r, e = .returned r ∧ w'.ownsRow w.heap.size 24 2 r (spans fl l f g).length ((spans fl l f g).flatMap enSp) ∧ Kp none' w w' := by
  obtain ⟨ao, acap, rfl⟩ : ∃ ao cap, u = .slice ao fl.length cap := by obtain ⟨ao, cap, rfl, _⟩ := h1.is; exact ⟨_, _, rfl⟩
  obtain ⟨bo, bcap, rfl⟩ : ∃ ao cap, v = .slice ao l.length cap := by obtain ⟨ao, cap, rfl, _⟩ := h2.is; exact ⟨_, _, rfl⟩
  have HX := Lib.hid h1; have HQ := Lib.hid h2
  have HA := Lib.hid (fun at0 W h h' => rBoth fl l hq hfn hln f g at0 (.slice ao fl.length acap) (.slice bo l.length bcap) W h h')
  have HSP : Hid (spans fl l f g = spR false 0 (bitsF fl l f g)) := rfl
  have hbl := bitsF_len fl l f g
  generalize spans fl l f g = sp at *
  generalize bitsF fl l f g = bs at *
  have HBL := Lib.hid hbl
  clear h1 h2 hbl
  go_enter Try.func13, Try.ntmps13
  go_wp2
  go_loopw [9, 10] (fun r i0 wr => ∃ i xs, i0 = .int .i64 (i : Nat) ∧ i ≤ l.length ∧ xs.length ≤ i ∧ Hid (SpI bs w wr r i xs)) (fun _ i0 _ => l.length - (intOf i0).toNat)
  case atStart => exact ⟨0, [], rfl, by omega, by simp, by rw [List.nil_append, bitI_neg _ _ (by decide)]; rfl, World.ownsRow_nil _ _ _ _, Kp.refl _ _⟩
  case round =>
    obtain ⟨i, xs, rfl, hi, hx, hr⟩ := hrel
    obtain ⟨ro, rcap, rfl⟩ := own_shape hr.out.own
    have HKR := Lib.hid hr.out.kp
    have HOR := Lib.hid hr.out.own
    have HEQ := Lib.hid hr.out.eq
    clear hr
    by_cases hlt : i < l.length
    · have hii : (i : Int) < l.length := by omega
      have HIB : Hid (i < bs.length) := by show _ < _; rw [HBL.out]; exact hlt
      go_wp2_with fail
      refine (HA.out _ _ (HX.out.old HKR.out) (HQ.out.old HKR.out)).mono ?_
      rintro e w1 ⟨rfl, k1⟩
      have HK1 := Lib.hid (HKR.out.trans k1)
      have HO1 := Lib.hid (own_kp (S := none') HOR.out k1 (fun _ _ h => h))
      clear k1
      cases hb : bitI bs i with
      | false =>
        have HE := Lib.hid (SpI.skip HEQ.out HIB.out (fun h => by rw [hb] at h; cases h.1))
        clear hb
        go_wp2_with fail
        go_roundw
        case rel => exact ⟨i + 1, xs, by go_num, by omega, by omega, HE.out, HO1.out, HK1.out⟩
        case measure => simp [intOf]; omega
      | true =>
        go_wp2_with fail
        refine (HA.out _ _ (HX.out.old HK1.out) (HQ.out.old HK1.out)).mono ?_
        rintro e w2 ⟨rfl, k2⟩
        have HK2 := Lib.hid (HK1.out.trans k2)
        have HO2 := Lib.hid (own_kp (S := none') HO1.out k2 (fun _ _ h => h))
        clear k2
        cases hp : bitI bs ((i : Int) - 1) with
        | true =>
          have HE := Lib.hid (SpI.skip HEQ.out HIB.out (fun h => by rw [hp] at h; cases h.2))
          clear hb hp
          go_wp2_with fail
          go_roundw
          case rel => exact ⟨i + 1, xs, by go_num, by omega, by omega, HE.out, HO2.out, HK2.out⟩
          case measure => simp [intOf]; omega
        | false =>
          have HE := Lib.hid (fun k hk => SpI.put HEQ.out HIB.out ⟨hb, hp⟩ (k := k) hk)
          clear hb hp
          go_wp2_with fail
          go_loopw [11] (fun k0 wi => ∃ k : Nat, k0 = .int .i64 k ∧ k < l.length ∧ Hid (i + ((bs.drop (i + 1)).takeWhile id).length = k + ((bs.drop (k + 1)).takeWhile id).length ∧ Kp none' w2 wi)) (fun k0 _ => l.length - (intOf k0).toNat)
          case atStart => exact ⟨i, rfl, hlt, rfl, Kp.refl _ _⟩
          case round =>
            obtain ⟨k, rfl, hk, hr⟩ := hrel
            have HK3 := Lib.hid (HK2.out.trans hr.out.2)
            have HO3 := Lib.hid (own_kp (S := none') HO2.out hr.out.2 (fun _ _ h => h))
            have HKE := Lib.hid hr.out.1
            have HKK := Lib.hid hr.out.2
            clear hr
            go_wp2_with fail
            refine (HA.out _ _ (HX.out.old HK3.out) (HQ.out.old HK3.out)).mono ?_
            rintro e w4 ⟨rfl, k4⟩
            have HK4 := Lib.hid (HK3.out.trans k4)
            have HKK4 := Lib.hid (HKK.out.trans k4)
            have HO4 := Lib.hid (own_kp (S := none') HO3.out k4 (fun _ _ h => h))
            clear k4
            cases hc : bitI bs ((k : Int) + 1) with
            | true =>
              obtain ⟨t1, t2⟩ := tw_step bs k hc
              rw [HBL.out] at t2
              have HKE2 : Hid (i + ((bs.drop (i + 1)).takeWhile id).length = (k + 1) + ((bs.drop (k + 1 + 1)).takeWhile id).length) := by
                show _ = (k + 1) + ((bs.drop (k + 2)).takeWhile id).length
                rw [HKE.out, t1]; omega
              clear hc t1
              go_wp2_with fail
              go_roundw
              case rel => exact ⟨k + 1, by go_num, t2, HKE2.out, HKK4.out⟩
              case measure => simp [intOf]; omega
            | false =>
              have HE2 := Lib.hid (HE.out k (by rw [HKE.out, tw_end bs k hc]; rfl))
              have hz := HK4.out.size
              clear hc
              go_wp2_with (at_builtin; refine wp_app1 tSp (.tmp 44) (.tmp 48) rfl rfl w.heap.size (HO4.out.alloc _) (enSp (i, k)) rfl rfl rfl (heap_new _ _) rfl (by omega) (by omega) (by simp; omega) ?_)
              intro g2 cap2 w7 hown hgrow
              have HF : Hid (SpI bs w w7 (.slice (some ⟨g2, 0, none⟩) (xs.length + 1) cap2) (i + 1) (xs ++ [(i, k)])) :=
                ⟨HE2.out, by rw [List.length_append, List.flatMap_append]; simpa using hown, (HK4.out.alloc _).grown hgrow (fun b hb => .inr (by have := (own_block HO4.out hb); omega))⟩
              clear hown hgrow
              go_wp2_with fail
              go_roundw
              case rel => exact ⟨i + 1, xs ++ [(i, k)], by go_num, by omega, by simp; omega, HF.out⟩
              case measure => simp [intOf]; omega
    · have hil : i = l.length := by omega
      have HF := Lib.hid (SpI.fin HEQ.out (by rw [HBL.out]; omega))
      go_wp2
      go_ret
      refine ⟨_, rfl, ?_, HKR.out⟩
      rw [HSP.out, ← HF.out]
      exact HOR.out
end Go.Proofs.Ythjapdjglifopaa
