/- The law's example of layer 15 lives. -/
import Derived.Test.YthnlggecjdifnaaFlowTString
namespace Go.Proofs.Ythnlggecjdifnaa
set_option linter.unusedVariables false
set_option linter.unusedSimpArgs false
open Go.RowKit
abbrev fA : ByteArray := ⟨#[97]⟩
abbrev fB : ByteArray := ⟨#[98]⟩
abbrev fC : ByteArray := ⟨#[99]⟩
abbrev fD : ByteArray := ⟨#[100]⟩
theorem rise_two (ys : List Nat) (h : sortUint32.Rising [3, 7] ys) : ys = [3, 7] := by
  have hl := h.perm.length_eq
  obtain ⟨a, b, rfl⟩ : ∃ a b, ys = [a, b] := by
    match ys, hl with
    | [a, b], _ => exact ⟨a, b, rfl⟩
  have h3 := h.perm.mem_iff (a := 3)
  have h7 := h.perm.mem_iff (a := 7)
  have hu := h.up
  simp at h3 h7 hu
  rw [show a = 3 by omega, show b = 7 by omega]
set_option maxRecDepth 100000 in
set_option maxHeartbeats 4000000 in
theorem lives15 (w : World) : Calls Try.prog 5 #[] w fun e w' => e = .returned (.bool true) ∧ Kp none' w w' := by
  have t0 := Lib.hid (flowString.bNew 2 (by omega) (by omega) w)
  go_enter Try.func5, Try.ntmps5
  go_wp2_with fail
  refine t0.out.mono ?_
  rintro e w1 ⟨tb, rfl, h1, k1⟩
  have T1 := Lib.hid (flowString.bPutNew h1 k1.size 7 (by omega) fA (by simp) (by simp))
  have K1 := Lib.hid (k1.mono (T := fun b => w.heap.size ≤ b) fun _ _ x => x.elim)
  clear h1 k1 t0
  go_wp2_with fail
  refine T1.out.mono ?_
  rintro e w2 ⟨rfl, h2, k2⟩
  have K2 := Lib.hid (K1.out.trans k2.kp)
  have T2 := Lib.hid (flowString.bPutNew h2 K2.out.size 3 (by omega) fB (by simp) (by simp))
  clear h2 k2 K1 T1
  go_wp2_with fail
  refine T2.out.mono ?_
  rintro e w3 ⟨rfl, h3, k3⟩
  have K3 := Lib.hid (K2.out.trans k3.kp)
  have T3 := Lib.hid (flowString.bPutFull h3 9 (by omega) fC (by simp) (by simp))
  have H3 := Lib.hid h3
  clear h3 k3 K2 T2
  go_wp2_with fail
  refine T3.out.mono ?_
  rintro e w4 ⟨rfl, k4⟩
  have h4 := H3.out.kp k4 (fun _ _ x => x)
  have K4 := Lib.hid (K3.out.trans (k4.mono fun _ _ x => x.elim))
  have T4 := Lib.hid (flowString.bIDs sortUint32.pdqAt12 (by omega) h4 (by simp))
  have H4 := Lib.hid h4
  clear h4 k4 K3 T3 H3
  go_wp2_with fail
  refine T4.out.mono ?_
  rintro e w5 ⟨v, ys, rfl, hr, ho, k5⟩
  have hys := rise_two ys hr
  subst hys
  obtain ⟨g, cap, rfl, hg, ce⟩ : ∃ g cap, v = .slice (some ⟨g, 0, none⟩) 2 cap ∧ w4.heap.size ≤ g ∧ ∀ W, flowString.Ts w.heap.size w5 W → (W.cell? ⟨g, 0, none⟩ = some (.int .u32 3) ∧ W.cell? ⟨g, 1, none⟩ = some (.int .u32 7)) := by
    rcases ho.2 with ⟨_, h0⟩ | ⟨g, cap, cur, rfl, hg, r⟩
    · simp at h0
    · obtain ⟨hb, _, _, _, h4⟩ := r
      have hx : ∀ (j : Nat) (u : Value), [Value.int .u32 (3 : Nat), .int .u32 (7 : Nat)][j]? = some u → cur.toList[j]? = some u := fun j u hj => by
        have h5 : (cur.toList.take (2 * 1))[j]? = some u := by rw [show (2 * 1) = [3, 7].length * 1 from rfl, h4]; exact hj
        rw [List.getElem?_take] at h5
        split at h5
        · exact h5
        · cases h5
      have h0 := hx 0 _ rfl
      have h1 := hx 1 _ rfl
      rw [Array.getElem?_toList] at h0 h1
      refine ⟨g, cap, rfl, hg, fun W hW => ?_⟩
      have := hW.oth g cur 29 (0, 0) hb (by decide) (by decide)
      simp [World.cell?, this, h0, h1]
  have h5 := H4.out.kp k5 (fun _ _ x => x)
  have K5 := Lib.hid (K4.out.trans (k5.mono fun _ _ x => x.elim))
  have T5 := Lib.hid (flowString.bDrop h5 7 (by omega) fA (by simp))
  have CE := Lib.hid ce
  have hgw := Nat.le_trans K4.out.size hg
  clear h5 K4 T4 H4 hr ho ce k5
  go_wp2_with fail
  refine T5.out.mono ?_
  rintro e w6 ⟨rfl, h6, h6x⟩
  obtain ⟨ce0, ce1⟩ := CE.out _ h6x
  have K6 := Lib.hid (K5.out.trans h6x.kp)
  have T6 := Lib.hid (flowString.bPutNew h6 K6.out.size 7 (by omega) fD (by simp [flowString.delF]) (by decide))
  clear h6 h6x CE T5 K5
  go_wp2_with fail
  refine T6.out.mono ?_
  rintro e w7 ⟨rfl, h7, k7⟩
  have K7 := Lib.hid (K6.out.trans k7.kp)
  clear h7 k7
  go_wp2
  go_ret
  exact ⟨rfl, K7.out.mono fun b hb h => by omega⟩
end Go.Proofs.Ythnlggecjdifnaa
