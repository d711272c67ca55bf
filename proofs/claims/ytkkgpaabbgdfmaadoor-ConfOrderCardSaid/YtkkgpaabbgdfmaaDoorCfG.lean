/- Walks for layer 24: conf.Put's closures. -/
import Derived.Test.YtkkgpaabbgdfmaaDoorCfE
import Derived.Test.YtkkgpaabbgdfmaaDoorDigJd
import Derived.Test.YtkkgpaabbgdfmaaDoorBuild
import Derived.Deep.QuietTactic
import Derived.Deep.RegionHeld3
namespace Go.Proofs.YtkkgpaabbgdfmaaDoor
set_option linter.unusedVariables false
set_option linter.unusedSimpArgs false
open Go Go.RowKit Go.Shelf

theorem gUnitT (n : Nat) (hn : n ≤ 18446744073709551615) : ∃ u : ByteArray, bl u = putU n ∧ u.size ≤ 30 ∧ ∀ W, Calls Tryd.prog 19 #[.int .u64 n] W fun e w' => e = .returned (.string u) ∧ Kp none' W w' :=
  ⟨tx (putU n), bl_tx _, by rw [tx_size]; exact putU_len n hn, fun W => (dPutUnit n hn W).mono fun e w' h => by
    obtain ⟨s, rfl, hs, k⟩ := h
    exact ⟨by rw [← hs, tx_bl], k⟩⟩
set_option maxHeartbeats 2000000 in
theorem cNames (w : World) : Calls Tryd.prog 21 #[] w fun e w' => e = .returned (.slice (some ⟨w.heap.size, 0, none⟩) 3 3) ∧ Blk w' w.heap.size [.string ⟨#[115, 116, 102, 113]⟩, .string ⟨#[101, 100, 102]⟩, .string ⟨#[115, 114, 115]⟩] 9 ∧ Kp none' w w' := by
  go_enter Tryd.func21, Tryd.ntmps21
  go_wp2
  go_ret
  exact ⟨rfl, Blk.new w [.string ⟨#[115, 116, 102, 113]⟩, .string ⟨#[101, 100, 102]⟩, .string ⟨#[115, 114, 115]⟩] 9, (Kp.refl _ _).alloc _⟩
set_option maxHeartbeats 2000000 in
theorem cBacks (w : World) : Calls Tryd.prog 22 #[] w fun e w' => e = .returned (.slice (some ⟨w.heap.size, 0, none⟩) 3 3) ∧ Blk w' w.heap.size [.string ⟨#[104, 101, 97, 112]⟩, .string ⟨#[99, 97, 108, 101, 110, 100, 97, 114]⟩, .string ⟨#[113, 117, 101, 117, 101, 115]⟩] 9 ∧ Kp none' w w' := by
  go_enter Tryd.func22, Tryd.ntmps22
  go_wp2
  go_ret
  exact ⟨rfl, Blk.new w [.string ⟨#[104, 101, 97, 112]⟩, .string ⟨#[99, 97, 108, 101, 110, 100, 97, 114]⟩, .string ⟨#[113, 117, 101, 117, 101, 115]⟩] 9, (Kp.refl _ _).alloc _⟩
theorem sb_ne {B b sb : Nat} {L : List UInt8} {w : World} {cs : List Value} {t : TypeId} (hb : Bd B b L w) (hs : Blk w sb cs t) (ht : t ≠ 50) : sb ≠ b := by
  obtain ⟨p, hp⟩ := hb.get
  obtain ⟨v, h1, _⟩ := hp.is
  intro e
  subst e
  have := hs.is.symm.trans h1
  simp at this
  exact ht this.2
set_option maxRecDepth 100000 in
set_option maxHeartbeats 2000000 in
theorem cSay (nm : ByteArray) (hnm : nm.size ≤ 20) (xs : List ByteArray) (hxl : xs.length ≤ 10) (hsz : (joinL (xs.map bl)).length ≤ 1000) (v : Value) {b : Nat} {L : List UInt8} {w : World} (hb : Bd b b L w) (hL : L.length ≤ 100000)
    (h : Sl w v xs.length 1 (strs xs)) (hcap : ∀ ao n c, v = .slice ao n c → n ≤ c) :
    Calls Tryd.prog 15 #[.string nm, v, .pointer (some ⟨b, 0, none⟩)] w fun e w' => e = .returned (.tuple #[]) ∧ Bd b b (L ++ (bl nm ++ 32 :: (joinL (xs.map bl) ++ [10]))) w' ∧ KB b b w w' := by
  have HJ := Lib.hid (dJoin xs v w h hcap (by omega) (by omega))
  obtain ⟨j, hj⟩ : ∃ j, tx (joinL (xs.map bl)) = j := ⟨_, rfl⟩
  have hj2 : bl j = joinL (xs.map bl) := by rw [← hj, bl_tx]
  have zj : j.size ≤ 1000 := by rw [← hj, tx_size]; exact hsz
  rw [hj] at HJ
  obtain ⟨x1, q1, e1, z1⟩ := cat_ex nm ⟨#[32]⟩ 20 1 hnm (by decide) (by omega)
  obtain ⟨x2, q2, e2, z2⟩ := cat_ex x1 j 21 1000 z1 zj (by omega)
  obtain ⟨x3, q3, e3, z3⟩ := cat_ex x2 ⟨#[10]⟩ 1021 1 z2 (by decide) (by omega)
  have HX : Hid (bl x3 = bl nm ++ 32 :: (joinL (xs.map bl) ++ [10])) := by
    show _ = _
    rw [e3, e2, e1, hj2]; show (bl nm ++ [32] ++ joinL (xs.map bl)) ++ [10] = _; simp
  have HB := Lib.hid hb
  obtain ⟨ao, cap, rfl⟩ : ∃ ao cap, v = .slice ao xs.length cap := by obtain ⟨ao, cap, rfl, _⟩ := h.is; exact ⟨_, _, rfl⟩
  have HW := Lib.hid (fun W (hW : Bd b b L W) => bString hW x3 (by omega))
  clear h hcap hb e1 e2 e3 hj hj2 hsz
  go_enter Tryd.func15, Tryd.ntmps15
  go_wp2_with fail
  refine (HJ.out).mono ?_
  rintro e w1 ⟨rfl, k1⟩
  have HK1 := Lib.hid k1
  have HB1 := Lib.hid (HB.out.old k1)
  clear k1
  go_wp2_with fail
  refine (HW.out _ HB1.out).mono ?_
  rintro e w2 ⟨rfl, hb2, k2⟩
  have HB2 := Lib.hid hb2; have HK2 := Lib.hid ((KB.old (B := b) (b := b) HK1.out).trans k2)
  clear hb2 k2
  go_wp2_with fail
  go_end0
  exact ⟨rfl, by rw [← HX.out]; exact HB2.out, HK2.out⟩
set_option maxRecDepth 100000 in
set_option maxHeartbeats 4000000 in
theorem cAmount (nm : ByteArray) (hnm : nm.size ≤ 20) (n : Nat) (hn : n ≤ 18446744073709551615) {b sb : Nat} {L : List UInt8} {w : World} (hb : Bd b b L w) (hL : L.length ≤ 100000)
    (hs : Blk w sb [.func (.func 15) #[] #[.pointer (some ⟨b, 0, none⟩)]] 56) :
    Calls Tryd.prog 20 #[.string nm, .int .u64 n, .pointer (some ⟨sb, 0, none⟩)] w fun e w' => e = .returned (.tuple #[]) ∧ Bd b b (L ++ (bl nm ++ 32 :: (putU n ++ [10]))) w' ∧ KB b b w w' := by
  obtain ⟨u, hu, zu, HU0⟩ := gUnitT n hn
  have HU := Lib.hid HU0
  have HSAY : Hid (∀ (W : World) (g : Nat), Kp none' w W → W.heap[g]? = some (.cells #[.string u] 9 (0, 0)) → Calls Tryd.prog 15 #[.string nm, .slice (some ⟨g, 0, none⟩) 1 1, .pointer (some ⟨b, 0, none⟩)] W fun e w' => e = .returned (.tuple #[]) ∧ Bd b b (L ++ (bl nm ++ 32 :: (putU n ++ [10]))) w' ∧ KB b b W w') := by
    intro W g hk hg
    have hjl : joinL ([u].map bl) = putU n := hu
    have := cSay nm hnm [u] (by simp) (by rw [hjl]; have := putU_len n hn; omega) (.slice (some ⟨g, 0, none⟩) 1 1) (hb.old hk) hL
      ⟨rfl, by simp, _, _, rfl, fun i x hx => ⟨g, 0, rfl, by
        cases i with
        | zero => simp [strs] at hx; subst hx; simp [World.cell?, hg]
        | succ i => simp [strs] at hx⟩⟩ (fun ao m c e => by cases e; exact Nat.le_refl _)
    rwa [hjl] at this
  have c0 := hs.cell 0 rfl
  have HNE := Lib.hid (sb_ne hb hs (by decide))
  have HS5 := Lib.hid hs
  clear hb hs HU0 hu
  go_enter Tryd.func20, Tryd.ntmps20
  go_region_held3 (fun w' => w'.cell? ⟨sb, 0, none⟩ = some (.func (.func 15) #[] #[.pointer (some ⟨b, 0, none⟩)])) (go_keep)
    (first
      | (go_at_call 19; refine (HU.out _).mono ?_; rintro e w1 ⟨rfl, k1⟩; have d0 := k1.cell (a := ⟨sb, 0, none⟩) c0 (fun x => x); have K1 := Lib.hid ((Kp.refl none' w).drew.trans k1); clear k1)
      | (go_at_call 15; refine (HSAY.out _ _ (K1.out.alloc _) (heap_newC _ _ (by simp))).mono ?_; rintro e w3 ⟨rfl, hb3, k3⟩; have HB3 := Lib.hid hb3; have HK3 := Lib.hid ((KB.old (B := b) (b := b) (K1.out.alloc (.cells #[.string u] 9))).trans k3); have g0 := ((HS5.out.kp (K1.out.alloc (.cells #[.string u] 9)) (fun x => x)).kb k3 HNE.out (by decide)).cell 0 rfl; clear hb3 k3))
  go_end0
  exact ⟨rfl, HB3.out, HK3.out⟩
set_option maxRecDepth 100000 in
set_option maxHeartbeats 4000000 in
theorem cCount (nm : ByteArray) (hnm : nm.size ≤ 20) (n : Nat) (hn : n ≤ 9223372036854775807) {b sb : Nat} {L : List UInt8} {w : World} (hb : Bd b b L w) (hL : L.length ≤ 100000)
    (hs : Blk w sb [.func (.func 15) #[] #[.pointer (some ⟨b, 0, none⟩)]] 56) :
    Calls Tryd.prog 18 #[.string nm, .int .i64 n, .pointer (some ⟨sb, 0, none⟩)] w fun e w' => e = .returned (.tuple #[]) ∧ Bd b b (L ++ (bl nm ++ 32 :: (putU n ++ [10]))) w' ∧ KB b b w w' := by
  obtain ⟨u, hu, zu, HU0⟩ := gUnitT n (by omega)
  have HU := Lib.hid HU0
  have HSAY : Hid (∀ (W : World) (g : Nat), Kp none' w W → W.heap[g]? = some (.cells #[.string u] 9 (0, 0)) → Calls Tryd.prog 15 #[.string nm, .slice (some ⟨g, 0, none⟩) 1 1, .pointer (some ⟨b, 0, none⟩)] W fun e w' => e = .returned (.tuple #[]) ∧ Bd b b (L ++ (bl nm ++ 32 :: (putU n ++ [10]))) w' ∧ KB b b W w') := by
    intro W g hk hg
    have hjl : joinL ([u].map bl) = putU n := hu
    have := cSay nm hnm [u] (by simp) (by rw [hjl]; have := putU_len n (by omega); omega) (.slice (some ⟨g, 0, none⟩) 1 1) (hb.old hk) hL
      ⟨rfl, by simp, _, _, rfl, fun i x hx => ⟨g, 0, rfl, by
        cases i with
        | zero => simp [strs] at hx; subst hx; simp [World.cell?, hg]
        | succ i => simp [strs] at hx⟩⟩ (fun ao m c e => by cases e; exact Nat.le_refl _)
    rwa [hjl] at this
  have c0 := hs.cell 0 rfl
  have hwr : IntKind.u64.wrap (n : Int) = n := by rw [IntKind.wrap_u64]; omega
  have HNE := Lib.hid (sb_ne hb hs (by decide))
  have HS5 := Lib.hid hs
  clear hb hs HU0 hu
  go_enter Tryd.func18, Tryd.ntmps18
  go_region_held3 (fun w' => w'.cell? ⟨sb, 0, none⟩ = some (.func (.func 15) #[] #[.pointer (some ⟨b, 0, none⟩)])) (go_keep)
    (first
      | (go_at_call 19; refine (HU.out _).mono ?_; rintro e w1 ⟨rfl, k1⟩; have d0 := k1.cell (a := ⟨sb, 0, none⟩) c0 (fun x => x); have K1 := Lib.hid ((Kp.refl none' w).drew.trans k1); clear k1)
      | (go_at_call 15; refine (HSAY.out _ _ (K1.out.alloc _) (heap_newC _ _ (by simp))).mono ?_; rintro e w3 ⟨rfl, hb3, k3⟩; have HB3 := Lib.hid hb3; have HK3 := Lib.hid ((KB.old (B := b) (b := b) (K1.out.alloc (.cells #[.string u] 9))).trans k3); have g0 := ((HS5.out.kp (K1.out.alloc (.cells #[.string u] 9)) (fun x => x)).kb k3 HNE.out (by decide)).cell 0 rfl; clear hb3 k3))
  go_end0
  exact ⟨rfl, HB3.out, HK3.out⟩
end Go.Proofs.YtkkgpaabbgdfmaaDoor
