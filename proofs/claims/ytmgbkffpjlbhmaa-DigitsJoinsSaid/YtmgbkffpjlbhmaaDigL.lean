/- Layer 3: the law's example lives. -/
import Derived.Test.YtmgbkffpjlbhmaaDigT
import Derived.Test.YtmgbkffpjlbhmaaDigZ
namespace Go.Proofs.Ytmgbkffpjlbhmaa
set_option linter.unusedVariables false
set_option linter.unusedSimpArgs false
open Go.RowKit Go.Shelf

theorem put1500 : putU 1500000 = [49, 53, 48, 48, 75] := by decide +kernel
theorem l2M : rdU (bl ⟨#[50, 77]⟩) = (2000000, 0) := by decide +kernel
theorem l007 : rd (bl ⟨#[48, 48, 55]⟩) = (0, 3) := by decide +kernel
theorem lab : words (bl ⟨#[32, 97, 9, 98, 32]⟩) = [[97], [98]] := by decide +kernel

theorem toList_bl (s : ByteArray) : s.toList = bl s := Lib.toList_data s
theorem sl_blk {w : World} {b n cap sz : Nat} {cs : List Value} {t : TypeId} (h : Blk w b cs t) (hl : cs.length = n * sz) (hn : n ≤ 9223372036854775807) : Sl w (.slice (some ⟨b, 0, none⟩) n cap) n sz cs :=
  ⟨hl, hn, _, _, rfl, fun i u hu => ⟨b, 0, rfl, by rw [Nat.zero_add]; exact h.cell i hu⟩⟩
set_option maxHeartbeats 2000000 in
theorem dLives (w : World) : Calls Try.prog 7 #[] w fun e w' => e = .returned (.bool true) ∧ Kp none' w w' := by
  have h1 := dReadUnit ⟨#[50, 77]⟩ w (by decide)
  rw [l2M] at h1
  have h2 := fun W => dRead ⟨#[48, 48, 55]⟩ W (by decide)
  rw [l007] at h2
  have H1 := Lib.hid h1; have H2 := Lib.hid h2
  clear h1 h2
  go_enter Try.func7, Try.ntmps7
  go_wp2_with fail
  refine (H1.out).mono ?_
  rintro e w1 ⟨rfl, d, rfl⟩
  go_wp2_with fail
  refine (H2.out _).mono ?_
  rintro e w2 ⟨rfl, rfl⟩
  go_wp2_with fail
  refine (dPutUnit 1500000 (by decide) _).mono ?_
  rintro e w3 ⟨s3, rfl, h3, hk3⟩
  have heq : (s3.toList == [49, 53, 48, 48, 75]) = true := by rw [toList_bl, h3, put1500]; rfl
  have HK3 := Lib.hid (((Kp.refl none' w).drewN d).trans hk3)
  clear h3 hk3
  go_wp2_with fail
  refine (dWords ⟨#[32, 97, 9, 98, 32]⟩ _ (by decide)).mono ?_
  rintro e w4 ⟨v4, rfl, ho4, hk4⟩
  rw [lab] at ho4
  have HO4 := Lib.hid ho4; have HK4 := Lib.hid (HK3.out.trans hk4)
  clear ho4 hk4
  go_wp2_with fail
  have hS := r03Same [tx [97], tx [98]] [tx [97], tx [98]] v4 (.slice (some ⟨w4.heap.size, 0, none⟩) 2 2) (w4.alloc (.cells #[.string ⟨#[97]⟩, .string ⟨#[98]⟩] 9)) (own_sl (own_kp HO4.out ((Kp.refl none' _).alloc _) (fun _ _ h => h))) (sl_blk (Blk.new w4 [.string ⟨#[97]⟩, .string ⟨#[98]⟩] _) rfl (by decide))
  refine hS.mono ?_
  rintro e w5 ⟨rfl, hk5⟩
  have HK5 := Lib.hid ((HK4.out.alloc _).trans hk5)
  clear hS hk5
  simp only [decide_true]
  go_wp2_with fail
  go_ret
  exact ⟨rfl, HK5.out⟩
end Go.Proofs.Ytmgbkffpjlbhmaa
