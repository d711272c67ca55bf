/- Walks of layer 31: addresses put. -/
import Derived.Test.YtgkncanfmojdbaaDoorAddrQ
import Derived.Test.YtgkncanfmojdbaaDoorDigY
import Derived.Test.YtgkncanfmojdbaaDoorShelf
import Derived.Test.YtgkncanfmojdbaaDoorStrs
import Derived.Laws.BitsAllLaws
namespace Go.Proofs.YtgkncanfmojdbaaDoor
set_option linter.unusedVariables false
set_option linter.unusedSimpArgs false
open Go.RowKit Go.Shelf

def partA (a : Nat) : Nat → Nat | 0 => a / 16777216 | 1 => a / 65536 % 256 | 2 => a / 256 % 256 | _ => a % 256
theorem partA_lt (a k : Nat) (ha : a < 4294967296) : partA a k < 256 := by
  match k with
  | 0 => show a / 16777216 < 256; omega
  | 1 => exact Nat.mod_lt _ (by decide)
  | 2 => exact Nat.mod_lt _ (by decide)
  | _ + 3 => exact Nat.mod_lt _ (by decide)
/-- Put's array: the first k parts are put. -/
def PutsA (a k : Nat) (w wr : World) : Prop := ∃ S : List ByteArray, S.map bl = (List.range k).map (fun j => put (partA a j)) ∧ Blk wr w.heap.size (strs S ++ List.replicate (4 - k) (.string ⟨#[]⟩)) 60 ∧ Kp none' w wr

theorem PutsA.cells {a k : Nat} {w wr : World} (h : PutsA a k w wr) (hk : k < 4) : ∃ (S : List ByteArray) (C : List Value), S.map bl = (List.range k).map (fun j => put (partA a j)) ∧ S.length = k ∧ C = strs S ++ List.replicate (4 - k) (.string ⟨#[]⟩) ∧ C[k]? = some (.string ⟨#[]⟩) ∧ Blk wr w.heap.size C 60 ∧ Kp none' w wr := by
  obtain ⟨S, h1, h2, h3⟩ := h
  have hl : S.length = k := by have := congrArg List.length h1; simpa using this
  refine ⟨S, _, h1, hl, rfl, ?_, h2, h3⟩
  rw [List.getElem?_append_right (by rw [strs_len, hl]; exact Nat.le_refl _), strs_len, hl, Nat.sub_self, List.getElem?_replicate, if_pos (by omega)]
theorem PutsA.at_ {a k : Nat} {w wr w1 : World} (h : PutsA a k w wr) (hk : k < 4) (k1 : Kp none' wr w1) : ∃ v0, w1.cell? ⟨w.heap.size, k, none⟩ = some v0 ∧ w1.frozen? ⟨w.heap.size, k, none⟩ = false := by
  obtain ⟨S, C, _, _, _, hc, hb, _⟩ := h.cells hk
  exact ⟨_, (hb.kp k1 id).cell k hc, (hb.kp k1 id).fz k⟩
theorem PutsA.next {a k : Nat} {w wr w1 : World} (h : PutsA a k w wr) (hk : k < 4) (k1 : Kp none' wr w1) {s : ByteArray} (hs : bl s = put (partA a k)) : PutsA a (k + 1) w (w1.setCell ⟨w.heap.size, k, none⟩ (.string s)) := by
  obtain ⟨S, C, h1, hl, rfl, hc, hb, h3⟩ := h.cells hk
  refine ⟨S ++ [s], ?_, ?_, (h3.trans k1).set (.inr (Nat.le_refl _)) _⟩
  · rw [List.map_append, h1, List.range_succ, List.map_append]; simp [hs]
  · have e : strs (S ++ [s]) ++ List.replicate (4 - (k + 1)) (Value.string ⟨#[]⟩) = (strs S ++ List.replicate (4 - k) (Value.string ⟨#[]⟩)).set k (.string s) := by
      rw [strs_snoc, List.set_append_right _ _ (by rw [strs_len, hl]; exact Nat.le_refl _), strs_len, hl, Nat.sub_self, show 4 - k = (4 - (k + 1)) + 1 by omega, List.replicate_succ, List.set_cons_zero, List.append_assoc]
      rfl
    rw [e]
    exact (hb.kp k1 id).set k _
theorem low8 (x : Nat) (hx : x < 4294967296) : IntKind.u64.wrap (bits BinOp.and IntKind.u32 (x : Int) 255) = ((x % 256 : Nat) : Int) := by
  have h := u32_and_nat x 255 hx (by decide)
  rw [nat_mask8] at h
  rw [show ((255 : Int)) = ((255 : Nat) : Int) from rfl, h, IntKind.wrap_u64]
  have := Nat.mod_lt x (show 256 > 0 by decide)
  omega
theorem part0 (a : Nat) (ha : a < 4294967296) : IntKind.u64.wrap (bits BinOp.and IntKind.u32 ((a : Int) / 16777216) 255) = (partA a 0 : Int) := by
  have h := low8 (a / 16777216) (by omega)
  rw [show ((a / 16777216 : Nat) : Int) = (a : Int) / 16777216 by simp] at h
  rw [h]; show ((a / 16777216 % 256 : Nat) : Int) = ((a / 16777216 : Nat) : Int); omega
theorem part1 (a : Nat) (ha : a < 4294967296) : IntKind.u64.wrap (bits BinOp.and IntKind.u32 ((a : Int) / 65536) 255) = (partA a 1 : Int) := by
  have h := low8 (a / 65536) (by omega)
  rw [show ((a / 65536 : Nat) : Int) = (a : Int) / 65536 by simp] at h
  exact h
theorem part2 (a : Nat) (ha : a < 4294967296) : IntKind.u64.wrap (bits BinOp.and IntKind.u32 ((a : Int) / 256) 255) = (partA a 2 : Int) := by
  have h := low8 (a / 256) (by omega)
  rw [show ((a / 256 : Nat) : Int) = (a : Int) / 256 by simp] at h
  exact h
theorem part3 (a : Nat) (ha : a < 4294967296) : IntKind.u64.wrap (bits BinOp.and IntKind.u32 (a : Int) 255) = (partA a 3 : Int) := low8 a ha

set_option maxHeartbeats 2000000 in
theorem aPut (a : Nat) (ha : a < 4294967296) (w : World) : Calls Tryd.prog 20 #[.int .u32 a] w fun e w' => ∃ s, e = .returned (.string s) ∧ bl s = putA a ∧ Kp none' w w' := by
  go_enter Tryd.func20, Tryd.ntmps20
  go_wp2_with fail
  go_loopw [5] (fun i wr => ∃ k : Nat, k ≤ 4 ∧ i = .int .i64 k ∧ Hid (PutsA a k w wr)) (fun i _ => 4 - (intOf i).toNat)
  case atStart => exact ⟨0, by omega, rfl, [], rfl, Blk.new _ (List.replicate 4 (Value.string ⟨#[]⟩)) _, (Kp.refl _ _).alloc _⟩
  case round =>
    obtain ⟨k, hk, rfl, hp⟩ := hrel
    by_cases hk4 : k < 4
    · have hc : k = 0 ∨ k = 1 ∨ k = 2 ∨ k = 3 := by omega
      rcases hc with rfl | rfl | rfl | rfl
      · have hbk : IntKind.u64.wrap (bits BinOp.and IntKind.u32 ((a : Int) / 16777216) 255) = (partA a 0 : Int) := part0 a ha
        have HBK := Lib.hid hbk
        clear hbk
        go_wp2_with fail
        rw [HBK.out]
        refine (dPut (partA a 0) (by have := partA_lt a 0 ha; omega) wr).mono ?_
        rintro e w1 ⟨s1, rfl, h1, k1⟩
        have hst := hp.out.next (by decide) k1 h1
        obtain ⟨v0, hc0, hf0⟩ := hp.out.at_ (by decide) k1
        have HST := Lib.hid hst
        clear hst h1 k1 hp
        go_wp2_with fail
        go_roundw
        case rel => exact ⟨1, by omega, rfl, HST.out⟩
        case measure => simp [intOf]
      · have hbk : IntKind.u64.wrap (bits BinOp.and IntKind.u32 ((a : Int) / 65536) 255) = (partA a 1 : Int) := part1 a ha
        have HBK := Lib.hid hbk
        clear hbk
        go_wp2_with fail
        rw [HBK.out]
        refine (dPut (partA a 1) (by have := partA_lt a 1 ha; omega) wr).mono ?_
        rintro e w1 ⟨s1, rfl, h1, k1⟩
        have hst := hp.out.next (by decide) k1 h1
        obtain ⟨v0, hc0, hf0⟩ := hp.out.at_ (by decide) k1
        have HST := Lib.hid hst
        clear hst h1 k1 hp
        go_wp2_with fail
        go_roundw
        case rel => exact ⟨2, by omega, rfl, HST.out⟩
        case measure => simp [intOf]
      · have hbk : IntKind.u64.wrap (bits BinOp.and IntKind.u32 ((a : Int) / 256) 255) = (partA a 2 : Int) := part2 a ha
        have HBK := Lib.hid hbk
        clear hbk
        go_wp2_with fail
        rw [HBK.out]
        refine (dPut (partA a 2) (by have := partA_lt a 2 ha; omega) wr).mono ?_
        rintro e w1 ⟨s1, rfl, h1, k1⟩
        have hst := hp.out.next (by decide) k1 h1
        obtain ⟨v0, hc0, hf0⟩ := hp.out.at_ (by decide) k1
        have HST := Lib.hid hst
        clear hst h1 k1 hp
        go_wp2_with fail
        go_roundw
        case rel => exact ⟨3, by omega, rfl, HST.out⟩
        case measure => simp [intOf]
      · have hbk : IntKind.u64.wrap (bits BinOp.and IntKind.u32 ((a : Int)) 255) = (partA a 3 : Int) := part3 a ha
        have HBK := Lib.hid hbk
        clear hbk
        go_wp2_with fail
        rw [HBK.out]
        refine (dPut (partA a 3) (by have := partA_lt a 3 ha; omega) wr).mono ?_
        rintro e w1 ⟨s1, rfl, h1, k1⟩
        have hst := hp.out.next (by decide) k1 h1
        obtain ⟨v0, hc0, hf0⟩ := hp.out.at_ (by decide) k1
        have HST := Lib.hid hst
        clear hst h1 k1 hp
        go_wp2_with fail
        go_roundw
        case rel => exact ⟨4, by omega, rfl, HST.out⟩
        case measure => simp [intOf]
    · obtain rfl : k = 4 := by omega
      obtain ⟨S, hS, hb, hkp⟩ := hp.out
      have hl : S.length = 4 := by have := congrArg List.length hS; simpa using this
      match S, hl, hS, hb with
      | [s0, s1, s2, s3], _, hS, hb =>
        have hJ : Calls Tryd.prog 32 #[.slice (some ⟨w.heap.size, 0, none⟩) 4 4, .string ⟨#[46]⟩] wr fun e w' => e = .returned (.string ⟨(Lib.join ([s0, s1, s2, s3].map (·.data.toList)) (ByteArray.data ⟨#[46]⟩).toList).toArray⟩) ∧ Below wr.heap.size wr w' := by
          refine Tryd.strings_Join w.heap.size 0 4 [s0, s1, s2, s3] ⟨#[46]⟩ wr ?_ hb.lt (by simp) (by simp) ?_
          · intro j x hx
            rw [Nat.zero_add]
            refine hb.cell j ?_
            show (strs [s0, s1, s2, s3] ++ [])[j]? = _
            rw [List.append_nil]
            unfold strs
            rw [List.getElem?_map, hx]; rfl
          · have e : Lib.join ([s0, s1, s2, s3].map (·.data.toList)) (ByteArray.data ⟨#[46]⟩).toList = joinS 46 ([s0, s1, s2, s3].map bl) := joinS_eq 46 _
            rw [e, hS]
            have l0 := put_len20 (partA a 0) (by have := partA_lt a 0 ha; omega)
            have l1 := put_len20 (partA a 1) (by have := partA_lt a 1 ha; omega)
            have l2 := put_len20 (partA a 2) (by have := partA_lt a 2 ha; omega)
            have l3 := put_len20 (partA a 3) (by have := partA_lt a 3 ha; omega)
            show (put (partA a 0) ++ 46 :: (put (partA a 1) ++ 46 :: (put (partA a 2) ++ 46 :: put (partA a 3)))).length ≤ _
            simp only [List.length_append, List.length_cons]; omega
        have hjs : joinS 46 ([s0, s1, s2, s3].map bl) = putA a := by rw [hS]; rfl
        have e : Lib.join ([s0, s1, s2, s3].map (·.data.toList)) (ByteArray.data ⟨#[46]⟩).toList = putA a := (joinS_eq 46 _).trans hjs
        rw [e] at hJ
        have HJ := Lib.hid hJ; have HKP := Lib.hid hkp
        clear hJ hS hb hkp hp hjs e
        go_wp2_with fail
        refine (HJ.out).mono ?_
        rintro e w1 ⟨rfl, hbl⟩
        have HK : Hid (Kp none' w w1) := HKP.out.trans ((Kp.of_below hbl).mono (fun b hb h => by omega))
        clear hbl
        go_wp2_with fail
        go_ret
        exact ⟨_, rfl, bl_tx _, HK.out⟩

set_option maxHeartbeats 2000000 in
theorem rPutA (a : Nat) (ha : a < 4294967296) (w : World) : Calls Tryd.prog 23 #[.int .u32 a] w fun e w' => e = .returned (.string (tx (putA a))) ∧ ∃ d, w' = w.drewN d := by
  have hi0 := fun W => rPut 19 (partA a 0) W (by have := partA_lt a 0 ha; omega) (by have := partA_lt a 0 ha; omega)
  have hi1 := fun W => rPut 19 (partA a 1) W (by have := partA_lt a 1 ha; omega) (by have := partA_lt a 1 ha; omega)
  have hi2 := fun W => rPut 19 (partA a 2) W (by have := partA_lt a 2 ha; omega) (by have := partA_lt a 2 ha; omega)
  have hi3 := fun W => rPut 19 (partA a 3) W (by have := partA_lt a 3 ha; omega) (by have := partA_lt a 3 ha; omega)
  have q0 : ((partA a 0 : Nat) : Int) = (a : Int) / 16777216 := by show ((a / 16777216 : Nat) : Int) = _; simp
  have q1 : ((partA a 1 : Nat) : Int) = (a : Int) / 65536 % 256 := by show ((a / 65536 % 256 : Nat) : Int) = _; simp
  have q2 : ((partA a 2 : Nat) : Int) = (a : Int) / 256 % 256 := by show ((a / 256 % 256 : Nat) : Int) = _; simp
  have q3 : ((partA a 3 : Nat) : Int) = (a : Int) % 256 := by show ((a % 256 : Nat) : Int) = _; simp
  simp only [q0] at hi0
  simp only [q1] at hi1
  simp only [q2] at hi2
  simp only [q3] at hi3
  have H0 := Lib.hid hi0; have H1 := Lib.hid hi1; have H2 := Lib.hid hi2; have H3 := Lib.hid hi3
  obtain ⟨s0, e0⟩ : ∃ s, tx (put (partA a 0)) = s := ⟨_, rfl⟩
  obtain ⟨s1, e1⟩ : ∃ s, tx (put (partA a 1)) = s := ⟨_, rfl⟩
  obtain ⟨s2, e2⟩ : ∃ s, tx (put (partA a 2)) = s := ⟨_, rfl⟩
  obtain ⟨s3, e3⟩ : ∃ s, tx (put (partA a 3)) = s := ⟨_, rfl⟩
  have z0 : s0.size ≤ 20 := by rw [← e0, tx_size]; exact put_len20 _ (by have := partA_lt a 0 ha; omega)
  have z1 : s1.size ≤ 20 := by rw [← e1, tx_size]; exact put_len20 _ (by have := partA_lt a 1 ha; omega)
  have z2 : s2.size ≤ 20 := by rw [← e2, tx_size]; exact put_len20 _ (by have := partA_lt a 2 ha; omega)
  have z3 : s3.size ≤ 20 := by rw [← e3, tx_size]; exact put_len20 _ (by have := partA_lt a 3 ha; omega)
  have c1 : (⟨#[46]⟩ : ByteArray).size = 1 := rfl
  have app_size : ∀ a b : ByteArray, (a ++ b).size = a.size + b.size := fun a b => by rw [← bl_len, bl_app, List.length_append, bl_len, bl_len]
  have t1 := fun W => cat_run (P := Tryd.prog) s0 ⟨#[46]⟩ (by omega) W
  have t2 := fun W => cat_run (P := Tryd.prog) (s0 ++ ⟨#[46]⟩) s1 (by rw [app_size]; omega) W
  have t3 := fun W => cat_run (P := Tryd.prog) (s0 ++ ⟨#[46]⟩ ++ s1) ⟨#[46]⟩ (by rw [app_size, app_size]; omega) W
  have t4 := fun W => cat_run (P := Tryd.prog) (s0 ++ ⟨#[46]⟩ ++ s1 ++ ⟨#[46]⟩) s2 (by rw [app_size, app_size, app_size]; omega) W
  have t5 := fun W => cat_run (P := Tryd.prog) (s0 ++ ⟨#[46]⟩ ++ s1 ++ ⟨#[46]⟩ ++ s2) ⟨#[46]⟩ (by rw [app_size, app_size, app_size, app_size]; omega) W
  have t6 := fun W => cat_run (P := Tryd.prog) (s0 ++ ⟨#[46]⟩ ++ s1 ++ ⟨#[46]⟩ ++ s2 ++ ⟨#[46]⟩) s3 (by rw [app_size, app_size, app_size, app_size, app_size]; omega) W
  have hfin : Hid (bl (s0 ++ ⟨#[46]⟩ ++ s1 ++ ⟨#[46]⟩ ++ s2 ++ ⟨#[46]⟩ ++ s3) = putA a) := by
    show _ = _
    rw [← e0, ← e1, ← e2, ← e3]
    simp only [bl_app, bl_tx]
    show put (partA a 0) ++ [46] ++ put (partA a 1) ++ [46] ++ put (partA a 2) ++ [46] ++ put (partA a 3) = put (partA a 0) ++ 46 :: (put (partA a 1) ++ 46 :: (put (partA a 2) ++ 46 :: put (partA a 3)))
    simp
  have E0 := Lib.hid e0; have E1 := Lib.hid e1; have E2 := Lib.hid e2; have E3 := Lib.hid e3
  clear hi0 hi1 hi2 hi3 q0 q1 q2 q3 e0 e1 e2 e3 z0 z1 z2 z3 c1 app_size
  go_enter Tryd.func23, Tryd.ntmps23
  go_wp2_with fail
  refine (H0.out _).mono ?_
  rintro e w1 ⟨rfl, d0, rfl⟩
  rw [E0.out]
  go_wp2_with fail
  refine (H1.out _).mono ?_
  rintro e w1 ⟨rfl, d1, rfl⟩
  rw [E1.out]
  go_wp2_with fail
  refine (H2.out _).mono ?_
  rintro e w1 ⟨rfl, d2, rfl⟩
  rw [E2.out]
  go_wp2_with fail
  refine (H3.out _).mono ?_
  rintro e w1 ⟨rfl, d3, rfl⟩
  rw [E3.out]
  go_wp2_with fail
  go_ret
  exact ⟨ret_str hfin.out, _, rfl⟩
end Go.Proofs.YtgkncanfmojdbaaDoor
