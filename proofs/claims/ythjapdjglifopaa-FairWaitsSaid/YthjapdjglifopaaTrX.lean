/- Walks of layer 39: records read. -/
import Derived.Test.YthjapdjglifopaaTrW
import Derived.RegionTactic
import Derived.ChangeAlike
import Derived.Deep.RegionHeld3
namespace Go.Proofs.Ythjapdjglifopaa
set_option linter.unusedVariables false
set_option linter.unusedSimpArgs false
open Go.RowKit Go.Shelf

theorem aRet {W w : World} {c : Nat} {r : Rec} {q : Bool} {T : Array Value} (hb : Blk W c (enR r) 53) (hk : Kp none' w W) (h2 : T[2]? = some (.pointer (some ⟨c, 0, none⟩))) (h3 : T[3]? = some (.bool q)) :
    bodyPost Try.prog Try.f54 (fun e w' => e = .returned (.tuple #[.agg (enR r).toArray, .bool q]) ∧ Kp none' w w') Exit.ret { tmps := T, defers := [] } W := by
  have c0 := hb.cell 0 rfl
  have c1 := hb.cell 1 rfl
  have c2 := hb.cell 2 rfl
  have c3 := hb.cell 3 rfl
  have c4 := hb.cell 4 rfl
  have c5 := hb.cell 5 rfl
  exact bodyPost_ret (v := .tuple #[.agg (enR r).toArray, .bool q]) (by simp [results, Try.results54, go_sem, c0, c1, c2, c3, c4, c5, h2, h3, enR]) rfl ⟨rfl, hk⟩
def noR : Rec := ⟨0, 0, 0, 0, 0, 0⟩
/-- What 'one' says. -/
def oneE (s : List UInt8) : Rec × Bool := if sealL (s.take 26) = s then (parseR s, rightB (parseR s)) else (noR, false)
theorem parse_take (s : List UInt8) (h : s.length = 30) : parseR (s.take 26) = parseR s := by
  unfold parseR
  simp only [List.drop_take, List.take_take]
  simp
theorem take6 (s : List UInt8) : takeF s [4, 1, 3, 3, 4, 1] = [(4, (parseR s).t), (1, (parseR s).kind.toNat), (3, (parseR s).flow), (3, (parseR s).id), (4, (parseR s).len), (1, (parseR s).code.toNat)] := by
  simp [takeF, widN, parseR]
theorem parse_lt (s : List UInt8) : (parseR s).t < 18446744073709551616 ∧ (parseR s).flow < 4294967296 ∧ (parseR s).id < 4294967296 ∧ (parseR s).len < 18446744073709551616 ∧ 0 ≤ (parseR s).kind ∧ (parseR s).kind < 256 ∧ 0 ≤ (parseR s).code ∧ (parseR s).code < 256 := by
  have key : ∀ (x : List UInt8) (k m : Nat), 256 ^ k = m → num (x.take k) < m := fun x k m h => by
    have h1 := num_lt (x.take k)
    have h2 : (x.take k).length ≤ k := List.length_take_le _ _
    rw [← h]
    exact Nat.lt_of_lt_of_le h1 (Nat.pow_le_pow_right (by decide) h2)
  have a0 := key s 8 18446744073709551616 (by decide)
  have a1 := key (s.drop 8) 1 256 (by decide)
  have a2 := key (s.drop 9) 4 4294967296 (by decide)
  have a3 := key (s.drop 13) 4 4294967296 (by decide)
  have a4 := key (s.drop 17) 8 18446744073709551616 (by decide)
  have a5 := key (s.drop 25) 1 256 (by decide)
  unfold parseR
  exact ⟨a0, a2, a3, a4, by simp only; omega, by simp only; omega, by simp only; omega, by simp only; omega⟩
theorem ret_one {x : Rec × Bool} {r : Rec} {q : Bool} (h : x = (r, q)) : Ending.returned (.tuple #[.agg (enR r).toArray, .bool q]) = .returned (.tuple #[.agg (enR x.1).toArray, .bool x.2]) := by rw [h]

set_option maxHeartbeats 4000000 in
theorem tOne (s : ByteArray) (hs : s.size = 30) (w : World) : Calls Try.prog 54 #[.string s] w fun e w' => e = .returned (.tuple #[.agg (enR (oneE (bl s)).1).toArray, .bool (oneE (bl s)).2]) ∧ Kp none' w w' := by
  obtain ⟨wx, hwx⟩ : ∃ wx, wx = w.alloc (.cells (enR noR).toArray 53) := ⟨_, rfl⟩
  have hk0 : Kp none' w wx := by rw [hwx]; exact (Kp.refl _ _).alloc _
  have hbx : Blk wx w.heap.size (enR noR) 53 := by rw [hwx]; exact Blk.new _ _ _
  have hO := fun W => sOpen s hs W
  have HWX := Lib.hid hwx; have HK0 := Lib.hid hk0; have HBX := Lib.hid hbx
  by_cases h : sealL ((bl s).take 26) = bl s
  · rw [if_pos h] at hO
    have hl : ((bl s).take 26).length = 26 := by rw [List.length_take, bl_len]; omega
    have hT := fun v W => wTake (tx ((bl s).take 26)) [4, 1, 3, 3, 4, 1] (by decide) (by rw [tx_size, hl]; decide) (by rw [tx_size, hl]; decide) (by decide) v W
    rw [bl_tx, take6, parse_take _ (by rw [bl_len]; exact hs)] at hT
    obtain ⟨r, hr⟩ : ∃ r, parseR (bl s) = r := ⟨_, rfl⟩
    have hlt := parse_lt (bl s)
    have HE : Hid (oneE (bl s) = (r, rightB r)) := by show _ = _; unfold oneE; rw [if_pos h, hr]
    rw [hr] at hT hlt
    obtain ⟨q1, q2, q3, q4, q5, q6, q7, q8⟩ := hlt
    obtain ⟨t, k, f, i, n, c⟩ := r
    simp only at hT q1 q2 q3 q4 q5 q6 q7 q8
    obtain ⟨kn, rfl⟩ : ∃ kn : Nat, k = kn := ⟨k.toNat, by omega⟩
    obtain ⟨cn, rfl⟩ : ∃ cn : Nat, c = cn := ⟨c.toNat, by omega⟩
    simp only [Int.toNat_natCast] at hT
    have HR := Lib.hid (fun W => tRight t f i n kn cn W)
    have HO := Lib.hid hO; have HT := Lib.hid hT
    clear hO hT hr h hl hwx hk0 hbx
    go_enter Try.func54, Try.ntmps54
    go_wp2_with fail
    have e0 : w.alloc (.cells #[.int .u64 0, .int .i64 0, .int .u32 0, .int .u32 0, .int .u64 0, .int .i64 0] 53) = wx := HWX.out.symm
    rw [e0]
    clear e0
    refine (HO.out _).mono ?_
    rintro e w1 ⟨rfl, k1⟩
    have HK1 := Lib.hid (HK0.out.trans k1); have HB1 := Lib.hid (HBX.out.kp k1 id)
    clear k1
    go_wp2_with fail
    refine (HT.out _ _ (sl_blk (Blk.new w1 (kinds [4, 1, 3, 3, 4, 1]) 3) 6 1 6 (by simp [kinds]) (by omega))).mono ?_
    rintro e w2 ⟨v, rfl, o2, k2⟩
    obtain ⟨g, cap, rfl, hg⟩ := own_shape1 o2 (by decide)
    have k3 := (Kp.refl none' w1).alloc (.cells (kinds [4, 1, 3, 3, 4, 1]).toArray 3)
    have HK2 := Lib.hid ((HK1.out.trans k3).trans k2); have HB2 := Lib.hid ((HB1.out.kp k3 id).kp k2 id)
    have c1 := own_cell o2 1 rfl
    have c4 := own_cell o2 4 rfl
    have c7 := own_cell o2 7 rfl
    have c10 := own_cell o2 10 rfl
    have c13 := own_cell o2 13 rfl
    have c16 := own_cell o2 16 rfl
    clear k2 k3 o2 hg
    go_wp2_with fail
    have e1 : IntKind.i64.wrap (kn : Int) = kn := IntWalk.i64_in _ (by omega)
    have e2 : IntKind.u32.wrap (f : Int) = f := by rw [IntKind.wrap_u32]; omega
    have e3 : IntKind.u32.wrap (i : Int) = i := by rw [IntKind.wrap_u32]; omega
    have e4 : IntKind.i64.wrap (cn : Int) = cn := IntWalk.i64_in _ (by omega)
    go_region_held3 (fun w' => w'.cell? ⟨g, 1, none⟩ = some (.int .u64 t) ∧ w'.cell? ⟨g, 4, none⟩ = some (.int .u64 kn) ∧ w'.cell? ⟨g, 7, none⟩ = some (.int .u64 f) ∧ w'.cell? ⟨g, 10, none⟩ = some (.int .u64 i) ∧ w'.cell? ⟨g, 13, none⟩ = some (.int .u64 n) ∧ w'.cell? ⟨g, 16, none⟩ = some (.int .u64 cn)) (go_keep) (fail)
    clear e1 e2 e3 e4 c1 c4 c7 c10 c13 c16
    have HB9 : Hid (Blk (w2.alloc (.cells #[.int .u64 t, .int .i64 kn, .int .u32 f, .int .u32 i, .int .u64 n, .int .i64 cn] 53)).drew w2.heap.size [.int .u64 t, .int .i64 kn, .int .u32 f, .int .u32 i, .int .u64 n, .int .i64 cn] 53) := (Blk.new w2 [.int .u64 t, .int .i64 kn, .int .u32 f, .int .u32 i, .int .u64 n, .int .i64 cn] 53).drew
    have HK9 : Hid (Kp none' w (w2.alloc (.cells #[.int .u64 t, .int .i64 kn, .int .u32 f, .int .u32 i, .int .u64 n, .int .i64 cn] 53)).drew) := (HK2.out.alloc _).drew
    have HC9 : Hid (Blk (w2.alloc (.cells #[.int .u64 t, .int .i64 kn, .int .u32 f, .int .u32 i, .int .u64 n, .int .i64 cn] 53)).drew w.heap.size [.int .u64 0, .int .i64 0, .int .u32 0, .int .u32 0, .int .u64 0, .int .i64 0] 53) := (HB2.out.alloc _).drew
    have hne : w2.heap.size ≠ w.heap.size := by have := HB2.out.lt; omega
    generalize (w2.alloc (.cells #[.int .u64 t, .int .i64 kn, .int .u32 f, .int .u32 i, .int .u64 n, .int .i64 cn] 53)).drew = w3 at *
    obtain ⟨p, hp⟩ : ∃ p, w2.heap.size = p := ⟨_, rfl⟩
    rw [hp] at hne HB9 ⊢
    clear hp
    have c0 := HB9.out.cell 0 rfl
    have c1 := HB9.out.cell 1 rfl
    have c2 := HB9.out.cell 2 rfl
    have c3 := HB9.out.cell 3 rfl
    have c4 := HB9.out.cell 4 rfl
    have c5 := HB9.out.cell 5 rfl
    go_wp2_with fail
    go_region_held3 (fun w' => w'.cell? ⟨p, 0, none⟩ = some (.int .u64 t) ∧ w'.cell? ⟨p, 1, none⟩ = some (.int .i64 kn) ∧ w'.cell? ⟨p, 2, none⟩ = some (.int .u32 f) ∧ w'.cell? ⟨p, 3, none⟩ = some (.int .u32 i) ∧ w'.cell? ⟨p, 4, none⟩ = some (.int .u64 n) ∧ w'.cell? ⟨p, 5, none⟩ = some (.int .i64 cn)) (first | go_keep | exact (fun hb : Blk _ p [.int .u64 t, .int .i64 kn, .int .u32 f, .int .u32 i, .int .u64 n, .int .i64 cn] 53 => ⟨hb.cell 0 rfl, hb.cell 1 rfl, hb.cell 2 rfl, hb.cell 3 rfl, hb.cell 4 rfl, hb.cell 5 rfl⟩) ((((((HB11.out.setNe (a := ⟨w.heap.size, 0, none⟩) hne _).setNe (a := ⟨w.heap.size, 1, none⟩) hne _).setNe (a := ⟨w.heap.size, 2, none⟩) hne _).setNe (a := ⟨w.heap.size, 3, none⟩) hne _).setNe (a := ⟨w.heap.size, 4, none⟩) hne _).setNe (a := ⟨w.heap.size, 5, none⟩) hne _))
      (first
        | (go_at_call 19; refine (HR.out _).mono ?_; rintro e w4 ⟨rfl, k4⟩
           have k5 := (Kp.refl none' w3).drew.trans k4
           have HB10 := HB9.out.kp k5 id
           have HC10 := HC9.out.kp k5 id
           have HK10 := Lib.hid (HK9.out.trans k5)
           have d0 := HB10.cell 0 rfl; have d1 := HB10.cell 1 rfl; have d2 := HB10.cell 2 rfl; have d3 := HB10.cell 3 rfl; have d4 := HB10.cell 4 rfl; have d5 := HB10.cell 5 rfl
           have g0 := HC10.cell 0 rfl; have g1 := HC10.cell 1 rfl; have g2 := HC10.cell 2 rfl; have g3 := HC10.cell 3 rfl; have g4 := HC10.cell 4 rfl; have g5 := HC10.cell 5 rfl
           have f0 := HC10.fz 0; have f1 := HC10.fz 1; have f2 := HC10.fz 2; have f3 := HC10.fz 3; have f4 := HC10.fz 4; have f5 := HC10.fz 5
           have HB11 := Lib.hid HB10; have HC11 := Lib.hid HC10
           clear k4 k5 HB10 HC10))
    go_wp2_with fail
    rw [HE.out]
    exact aRet (r := ⟨t, kn, f, i, n, cn⟩) (HC11.out.set 0 _ |>.set 1 _ |>.set 2 _ |>.set 3 _ |>.set 4 _ |>.set 5 _) (((((((HK10.out.set (Or.inr (Nat.le_refl _)) _).set (Or.inr (Nat.le_refl _)) _).set (Or.inr (Nat.le_refl _)) _).set (Or.inr (Nat.le_refl _)) _).set (Or.inr (Nat.le_refl _)) _).set (Or.inr (Nat.le_refl _)) _)) rfl rfl
  · rw [if_neg h] at hO
    have HE : Hid (oneE (bl s) = (noR, false)) := by show _ = _; unfold oneE; rw [if_neg h]
    have HO := Lib.hid hO
    clear hO h hwx hk0 hbx
    go_enter Try.func54, Try.ntmps54
    go_wp2_with fail
    have e0 : w.alloc (.cells #[.int .u64 0, .int .i64 0, .int .u32 0, .int .u32 0, .int .u64 0, .int .i64 0] 53) = wx := HWX.out.symm
    rw [e0]
    clear e0
    refine (HO.out _).mono ?_
    rintro e w1 ⟨rfl, k1⟩
    have HK1 := Lib.hid (HK0.out.trans k1); have HB1 := Lib.hid (HBX.out.kp k1 id)
    clear k1
    have f0 := HB1.out.fz 0; have f1 := HB1.out.fz 1; have f2 := HB1.out.fz 2; have f3 := HB1.out.fz 3; have f4 := HB1.out.fz 4; have f5 := HB1.out.fz 5
    have c0 := HB1.out.cell 0 rfl
    have c1 := HB1.out.cell 1 rfl
    have c2 := HB1.out.cell 2 rfl
    have c3 := HB1.out.cell 3 rfl
    have c4 := HB1.out.cell 4 rfl
    have c5 := HB1.out.cell 5 rfl
    go_wp2_with fail
    rw [HE.out]
    exact aRet (r := noR) (HB1.out.set 0 _ |>.set 1 _ |>.set 2 _ |>.set 3 _ |>.set 4 _ |>.set 5 _) (((((((HK1.out.set (Or.inr (Nat.le_refl _)) _).set (Or.inr (Nat.le_refl _)) _).set (Or.inr (Nat.le_refl _)) _).set (Or.inr (Nat.le_refl _)) _).set (Or.inr (Nat.le_refl _)) _).set (Or.inr (Nat.le_refl _)) _)) rfl rfl
end Go.Proofs.Ythjapdjglifopaa
