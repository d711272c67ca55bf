/- Layer 15: tells. -/
import Derived.Test.YthnlggecjdifnaaFlEa
import Derived.Test.YthnlggecjdifnaaKept
namespace Go.Proofs.Ythnlggecjdifnaa
set_option linter.unusedVariables false
set_option linter.unusedSimpArgs false
open Go.RowKit flowInt

set_option maxRecDepth 100000 in
set_option maxHeartbeats 8000000 in
theorem tellsW (w : World) (B0 tb room : Nat) (v : Value) (l E : List (Nat × Int)) (T : Tb w B0 tb room E) (R : Rel l E) (h : Rr w B0 v l) :
    Calls Try.prog 7 #[.pointer (some ⟨tb, 0, none⟩), v] w fun e w' => e = .returned (.bool true) ∧ Kp none' w w' := by
  have hle : l.length ≤ 4096 := by have := R.perm.length_eq; have := T.len; omega
  have hkb := (Kp.refl none' w).alloc (.cells #[v] 28)
  have HID := Lib.hid (bIDs sortUint32.pdqAtAll (by omega) (T.kp hkb (fun _ _ x => x)) (by have := T.len; omega))
  have HBX := Lib.hid (Blk.new w [v] 28)
  have HT := Lib.hid T
  have HR := Lib.hid h
  have HRL := Lib.hid R
  have HKB := Lib.hid hkb
  have HLE := Lib.hid R.perm.length_eq
  obtain ⟨vo, vcap, rfl⟩ := own_shape h
  clear T R h hkb
  go_enter Try.func7, Try.ntmps7
  go_wp2_with (go_at_call 20; refine HID.out.mono ?_; rintro e W1 ⟨v2, ys, rfl, hr, hown, hk1⟩
               obtain rfl := HRL.out.ids hr
               have HO1 : Hid (W1.ownsRow w.heap.size 29 1 v2 l.length ((l.map (·.1)).map sortUint32.en)) := by simpa [Hid] using own_base hown (by simp)
               have HK1 := Lib.hid (HKB.out.trans hk1)
               have HB1 := Lib.hid (HBX.out.kp hk1 (fun x => x))
               clear hown hr hk1 HID
               obtain ⟨ao, cap, rfl⟩ := own_shape HO1.out)
  have HK5 : Hid (Kp none' w (W1.alloc (.cells #[.slice ao l.length cap] 48))) := HK1.out.alloc _
  have HB5 := Lib.hid (Blk.new W1 [.slice ao l.length cap] 48)
  have HC5 := Lib.hid (HB1.out.alloc (.cells #[.slice ao l.length cap] 48))
  have HO5 := Lib.hid (own_kp (S := none') HO1.out ((Kp.refl _ _).alloc (.cells #[.slice ao l.length cap] 48)) (fun _ _ x => x))
  have k0 := HB5.out.cell 0 rfl
  have k1 := HC5.out.cell 0 rfl
  have HT5 := Lib.hid (HT.out.kp HK5.out (fun _ _ x => x))
  have GL := Lib.hid (fun W (k : Kp none' (W1.alloc (.cells #[.slice ao l.length cap] 48)) W) => calls_same (by have := bLen (HT5.out.kp k (fun _ _ x => x)); rw [← HLE.out] at this; exact this))
  refine wp_region_kept2 [] [0, 1, 2, 3, 4, 5, 6, 7, 8, 9, 10] 11 (by kernel_rfl) (by kernel_rfl) (fun c a d u w h => by cases d <;> exact h) ?_
  simp only [pick, List.getElem?_cons_succ, List.getElem?_cons_zero, List.drop_succ_cons, List.drop_zero]
  show wpKL _ _ _ _ _ _
  repeat (first
    | (refine wpKL_op (by exact rfl) (by as_aux_lemma => intro W hK; have e0 := hK.cell k0 (fun x => x); have e1 := hK.cell k1 (fun x => x); go_simp; exact rfl) ?_; simp only [Act.put, List.setIfInBounds_toArray, List.set_cons_succ, List.set_cons_zero])
    | (refine wpKL_off (by exact rfl) ?_; simp only [Act.put, List.setIfInBounds_toArray, List.set_cons_succ, List.set_cons_zero])
    | (refine wpKL_call (by exact rfl) (by as_aux_lemma => intro W; go_simp; exact ⟨rfl, rfl⟩) (by intro W hK; with_reducible first | exact GL.out W hK) ?_; simp only [Act.put, List.setIfInBounds_toArray, List.set_cons_succ, List.set_cons_zero]))
  show ∀ W, _ → wpList _ _ _ _ _ _
  intro W6 hK6
  have HK6 := Lib.hid (HK5.out.trans hK6)
  have HKA := Lib.hid (((Kp.refl none' W6).alloc (.cells #[.int .i64 0] 3)).alloc (.cells #[.bool true] 4))
  have hci : CI ((W6.alloc (.cells #[.int .i64 0] 3)).alloc (.cells #[.bool true] 4)) B0 w.heap.size (W6.heap.size + 1) W6.heap.size w.heap.size W1.heap.size (.slice vo l.length vcap) (.slice ao l.length cap) l 0 := by
    refine ⟨?_, (Blk.new W6 [.int .i64 0] 3).alloc _, (HC5.out.kp hK6 (fun x => x)).kp HKA.out (fun x => x), (HB5.out.kp hK6 (fun x => x)).kp HKA.out (fun x => x), own_kp HR.out (HK6.out.trans HKA.out) (fun _ _ x => x), own_kp HO5.out (hK6.trans HKA.out) (fun _ _ x => x)⟩
    have := Blk.new (W6.alloc (.cells #[.int .i64 0] 3)) [.bool true] 4
    simpa using this
  have HCI := Lib.hid hci
  have HEA := Lib.hid (eachW _ B0 w.heap.size tb room _ _ _ _ _ _ l E (HT.out.kp (HK6.out.trans HKA.out) (fun _ _ x => x)) HRL.out hci)
  have hws := HK6.out.size
  clear hK6 hci k0 k1 GL
  go_wp2_with (go_at_call 22; refine HEA.out.mono ?_; rintro e w9 ⟨rfl, hb1, hb2, hk9⟩
               have HCI9 := Lib.hid (HCI.out.turn hk9 hb1 hb2)
               have q0 := hb1.cell 0 rfl
               have q1 := hb2.cell 0 rfl
               have q2 := HCI9.out.box.cell 0 rfl
               have HK9 : Hid (Kp none' w w9) := (HK6.out.trans HKA.out).then hk9 (fun b hb hS => by rcases hS with rfl | rfl <;> omega)
               clear hb1 hb2 hk9 HEA)
  go_ret
  exact ⟨by first | rfl | simp, HK9.out⟩
end Go.Proofs.Ythnlggecjdifnaa
