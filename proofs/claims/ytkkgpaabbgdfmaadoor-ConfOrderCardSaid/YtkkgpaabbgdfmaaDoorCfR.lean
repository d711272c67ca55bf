/- Walks for layer 24: the document's flow of a line; what a line says. -/
import Derived.Test.YtkkgpaabbgdfmaaDoorCfO
import Derived.Test.YtkkgpaabbgdfmaaDoorKept
namespace Go.Proofs.YtkkgpaabbgdfmaaDoor
set_option linter.unusedVariables false
set_option linter.unusedSimpArgs false
open Go Go.RowKit Go.Shelf

def zF : FlR := ⟨0, 0, 0, 0, 0⟩
def flR (l : List (List UInt8)) : FlR := if flE 0 l = 0 then flV l else zF
theorem infoF : (Tryd.prog.info? 46).map (·.size) = some 5 := by kernel_rfl
theorem oneF (f : FlR) : ∀ u ∈ enFl f, u.oneCell' = true := by
  intro u hu
  unfold enFl at hu
  simp only [List.mem_cons, List.not_mem_nil, or_false] at hu
  rcases hu with rfl | rfl | rfl | rfl | rfl <;> rfl
def u64s (l : List Nat) : List Value := l.map fun (n : Nat) => .int .u64 (n : Int)
theorem flR_bad {l : List (List UInt8)} (h : flE 0 l ≠ 0) : flR l = zF := by unfold flR; rw [if_neg h]
set_option maxRecDepth 100000 in
set_option maxHeartbeats 8000000 in
theorem rFlow (x0 x1 x2 x3 x4 : ByteArray) (z0 : x0.size ≤ 1000000) (z1 : x1.size ≤ 1000000) (z2 : x2.size ≤ 1000000) (z3 : x3.size ≤ 1000000) (z4 : x4.size ≤ 1000000) (w : World)
    (g cap : Nat) (d0 : w.cell? ⟨g, 1, none⟩ = some (.string x0)) (d1 : w.cell? ⟨g, 2, none⟩ = some (.string x1)) (d2 : w.cell? ⟨g, 3, none⟩ = some (.string x2)) (d3 : w.cell? ⟨g, 4, none⟩ = some (.string x3)) (d4 : w.cell? ⟨g, 5, none⟩ = some (.string x4)) (f : FlR) (F : Int)
    (hff : flR [bl x0, bl x1, bl x2, bl x3, bl x4] = f) (hFF : flE 0 [bl x0, bl x1, bl x2, bl x3, bl x4] = F) :
    Calls Tryd.prog 34 #[.slice (some ⟨g, 1, none⟩) 5 cap] w fun e w' => e = .returned (.tuple #[.agg (enFl f).toArray, .int .i64 F]) ∧ Kp none' w w' := by
  obtain ⟨n0, E0, q0, m0, -, -⟩ := cNum x0 z0 4294967295
  obtain ⟨n1, E1, q1, m1, -, -⟩ := cNum x1 z1 18446744073709551615
  obtain ⟨n2, E2, q2, m2, -, -⟩ := cNum x2 z2 18446744073709551615
  obtain ⟨n3, E3, q3, m3, -, -⟩ := cNum x3 z3 18446744073709551615
  obtain ⟨n4, E4, q4, m4, -, -⟩ := cNum x4 z4 18446744073709551615
  have M0 := Lib.hid (fun W => rNum x0 z0 4294967295 n0 E0 q0 W); have M1 := Lib.hid (fun W => rNum x1 z1 18446744073709551615 n1 E1 q1 W); have M2 := Lib.hid (fun W => rNum x2 z2 18446744073709551615 n2 E2 q2 W); have M3 := Lib.hid (fun W => rNum x3 z3 18446744073709551615 n3 E3 q3 W); have M4 := Lib.hid (fun W => rNum x4 z4 18446744073709551615 n4 E4 q4 W)
  obtain ⟨hF, hV⟩ := fl_all q0 q1 q2 q3 q4
  have hfz : F ≠ 0 → f = zF := fun h => by rw [← hff, flR_bad (by rw [hFF]; exact h)]
  have hfv : F = 0 → f = flV [bl x0, bl x1, bl x2, bl x3, bl x4] := fun h => by rw [← hff]; unfold flR; rw [if_pos (by rw [hFF]; exact h)]
  rw [hFF] at hF
  have HF0 : Hid (E0 ≠ 0 → F = E0) := fun h => by rw [hF, if_pos h]
  have HF1 : Hid (E0 = 0 → E1 ≠ 0 → F = E1) := fun h0 h => by rw [hF, if_neg (by simp [h0]), if_pos h]
  have HF2 : Hid (E0 = 0 → E1 = 0 → E2 ≠ 0 → F = E2) := fun h0 h1 h => by rw [hF, if_neg (by simp [h0]), if_neg (by simp [h1]), if_pos h]
  have HF3 : Hid (E0 = 0 → E1 = 0 → E2 = 0 → E3 ≠ 0 → F = E3) := fun h0 h1 h2 h => by rw [hF, if_neg (by simp [h0]), if_neg (by simp [h1]), if_neg (by simp [h2]), if_pos h]
  have HF4 : Hid (E0 = 0 → E1 = 0 → E2 = 0 → E3 = 0 → E4 ≠ 0 → F = E4) := fun h0 h1 h2 h3 h => by rw [hF, if_neg (by simp [h0]), if_neg (by simp [h1]), if_neg (by simp [h2]), if_neg (by simp [h3]), if_pos h]
  have HF5 : Hid (E0 = 0 → E1 = 0 → E2 = 0 → E3 = 0 → E4 = 0 → F = 0 ∧ f = ⟨n0, n1, n2, n3, n4⟩) := fun h0 h1 h2 h3 h4 => by
    have hz : F = 0 := by rw [hF, if_neg (by simp [h0]), if_neg (by simp [h1]), if_neg (by simp [h2]), if_neg (by simp [h3]), if_neg (by simp [h4])]
    exact ⟨hz, by rw [hfv hz, hV h0 h1 h2 h3 h4]⟩
  have HFZ := Lib.hid hfz
  have hb0 := Blk.new w (enFl zF) 46
  have hk0 := (Kp.refl none' w).alloc (.cells (enFl zF).toArray 46)
  have e0 := hk0.cell (a := ⟨g, 1, none⟩) d0 (fun x => x)
  have e1 := hk0.cell (a := ⟨g, 2, none⟩) d1 (fun x => x)
  have e2 := hk0.cell (a := ⟨g, 3, none⟩) d2 (fun x => x)
  have e3 := hk0.cell (a := ⟨g, 4, none⟩) d3 (fun x => x)
  have e4 := hk0.cell (a := ⟨g, 5, none⟩) d4 (fun x => x)
  obtain ⟨w0, hw0⟩ : ∃ W, w.alloc (.cells #[.int .u32 0, .int .u64 0, .int .u64 0, .int .u64 0, .int .u64 0] 46) = W := ⟨_, rfl⟩
  have hw0' : w.alloc (.cells (enFl zF).toArray 46) = w0 := hw0
  rw [hw0'] at hb0 hk0 e0 e1 e2 e3 e4
  have HB0 := Lib.hid hb0; have HK0 := Lib.hid hk0
  have HC0 := Lib.hid e0; have HC1 := Lib.hid e1; have HC2 := Lib.hid e2; have HC3 := Lib.hid e3; have HC4 := Lib.hid e4
  have hw0u : IntKind.u32.wrap (n0 : Int) = n0 := by rw [IntKind.wrap_u32]; omega
  have hbz := hb0.lt
  clear hF hV hfz hfv hff hFF q0 q1 q2 q3 q4 d0 d1 d2 d3 d4 e0 e1 e2 e3 e4 hb0 hk0 hw0'
  go_enter Tryd.func34, Tryd.ntmps34
  go_wp2
  clear hw0
  obtain ⟨rb, hrb⟩ : ∃ r, w.heap.size = r := ⟨_, rfl⟩
  have hrl : w.heap.size ≤ rb := by omega
  rw [hrb] at HB0 hbz ⊢
  clear hrb
  go_loopw [4, 5] (fun v i0 wr => ∃ j : Nat, i0 = .int .i64 j ∧ j ≤ 5 ∧ Hid (wr.ownsRow w0.heap.size 22 1 v j (u64s ([n0, n1, n2, n3, n4].take j))) ∧ Hid (Kp none' w0 wr) ∧ Hid ((1 ≤ j → E0 = 0) ∧ (2 ≤ j → E1 = 0) ∧ (3 ≤ j → E2 = 0) ∧ (4 ≤ j → E3 = 0) ∧ (5 ≤ j → E4 = 0))) (fun _ i0 _ => 5 - (intOf i0).toNat)
  case atStart => exact ⟨0, rfl, by omega, World.ownsRow_nil _ _ _ _, Kp.refl _ _, ⟨fun h => by omega, fun h => by omega, fun h => by omega, fun h => by omega, fun h => by omega⟩⟩
  case round =>
    rename_i vn wr
    obtain ⟨j, rfl, hj, HO, HKr, HJ⟩ := hrel
    obtain ⟨ao, acap, rfl⟩ := own_shape HO.out
    have hzr := HKr.out.size
    have hj5 : j = 0 ∨ j = 1 ∨ j = 2 ∨ j = 3 ∨ j = 4 ∨ j = 5 := by omega
    rcases hj5 with rfl | rfl | rfl | rfl | rfl | rfl
    · have x0 := HKr.out.cell (a := ⟨g, 1, none⟩) HC0.out (fun x => x)
      by_cases hk : E0 = 0
      · have HEk := Lib.hid hk
        subst hk
        go_wp2_with fail
        refine (M0.out _).mono ?_
        rintro e w5 ⟨rfl, rfl⟩
        go_wp2_with (at_builtin; refine wp_app1 tU64 (.tmp 28) (.tmp 30) rfl rfl w0.heap.size (HO.out.alloc _) [.int .u64 n0] rfl rfl rfl (heap_new _ _) rfl (by omega) (by omega) (by simp; omega) ?_)
        intro g6 cap6 w6 hown6 hgrow6
        have HO6 := Lib.hid hown6
        have HK6 : Hid (Kp none' w0 w6) := (HKr.out.alloc _).grown hgrow6 (fun b e => .inr (own_block HO.out e).1)
        clear hown6 hgrow6
        go_wp2_with fail
        go_roundw
        case rel => exact ⟨1, by go_num, by omega, HO6.out, HK6.out, ⟨fun _ => HEk.out, fun h => by omega, fun h => by omega, fun h => by omega, fun h => by omega⟩⟩
        case measure => simp [intOf]
      · have hfe := HF0.out hk
        have hfz := HFZ.out (by rw [hfe]; exact hk)
        have hb : (E0 != 0) = true := by simpa using hk
        subst hfe hfz
        clear hk
        go_wp2_with fail
        refine (M0.out _).mono ?_
        rintro e w5 ⟨rfl, rfl⟩
        have HB5 := Lib.hid (HB0.out.kp HKr.out (fun x => x))
        have HK5 := Lib.hid (HK0.out.trans HKr.out)
        go_wp2_with (first
          | (refine wp_set_row rfl 46 (.tmp 2) (.tmp 26) rfl HB5.out (enFl zF) rfl rfl infoF rfl (oneF zF) ?_
             intro W8 hB8 hO8 hK8
             have HB8 := Lib.hid hB8; have HK8 := Lib.hid (hK8 _ _ HK5.out (.inr hrl))
             clear hB8 hO8 hK8))
        refine ret_row2 (by rfl) HB8.out _ Tryd.underlying46 rfl infoF (by rfl) ?_
        exact ⟨rfl, HK8.out⟩
    · have x1 := HKr.out.cell (a := ⟨g, 2, none⟩) HC1.out (fun x => x)
      by_cases hk : E1 = 0
      · have HEk := Lib.hid hk
        subst hk
        go_wp2_with fail
        refine (M1.out _).mono ?_
        rintro e w5 ⟨rfl, rfl⟩
        go_wp2_with (at_builtin; refine wp_app1 tU64 (.tmp 28) (.tmp 30) rfl rfl w0.heap.size (HO.out.alloc _) [.int .u64 n1] rfl rfl rfl (heap_new _ _) rfl (by omega) (by omega) (by simp; omega) ?_)
        intro g6 cap6 w6 hown6 hgrow6
        have HO6 := Lib.hid hown6
        have HK6 : Hid (Kp none' w0 w6) := (HKr.out.alloc _).grown hgrow6 (fun b e => .inr (own_block HO.out e).1)
        clear hown6 hgrow6
        go_wp2_with fail
        go_roundw
        case rel => exact ⟨2, by go_num, by omega, HO6.out, HK6.out, ⟨fun _ => HJ.out.1 (by omega), fun _ => HEk.out, fun h => by omega, fun h => by omega, fun h => by omega⟩⟩
        case measure => simp [intOf]
      · have hfe := HF1.out (HJ.out.1 (by omega)) hk
        have hfz := HFZ.out (by rw [hfe]; exact hk)
        have hb : (E1 != 0) = true := by simpa using hk
        subst hfe hfz
        clear hk
        go_wp2_with fail
        refine (M1.out _).mono ?_
        rintro e w5 ⟨rfl, rfl⟩
        have HB5 := Lib.hid (HB0.out.kp HKr.out (fun x => x))
        have HK5 := Lib.hid (HK0.out.trans HKr.out)
        go_wp2_with (first
          | (refine wp_set_row rfl 46 (.tmp 2) (.tmp 26) rfl HB5.out (enFl zF) rfl rfl infoF rfl (oneF zF) ?_
             intro W8 hB8 hO8 hK8
             have HB8 := Lib.hid hB8; have HK8 := Lib.hid (hK8 _ _ HK5.out (.inr hrl))
             clear hB8 hO8 hK8))
        refine ret_row2 (by rfl) HB8.out _ Tryd.underlying46 rfl infoF (by rfl) ?_
        exact ⟨rfl, HK8.out⟩
    · have x2 := HKr.out.cell (a := ⟨g, 3, none⟩) HC2.out (fun x => x)
      by_cases hk : E2 = 0
      · have HEk := Lib.hid hk
        subst hk
        go_wp2_with fail
        refine (M2.out _).mono ?_
        rintro e w5 ⟨rfl, rfl⟩
        go_wp2_with (at_builtin; refine wp_app1 tU64 (.tmp 28) (.tmp 30) rfl rfl w0.heap.size (HO.out.alloc _) [.int .u64 n2] rfl rfl rfl (heap_new _ _) rfl (by omega) (by omega) (by simp; omega) ?_)
        intro g6 cap6 w6 hown6 hgrow6
        have HO6 := Lib.hid hown6
        have HK6 : Hid (Kp none' w0 w6) := (HKr.out.alloc _).grown hgrow6 (fun b e => .inr (own_block HO.out e).1)
        clear hown6 hgrow6
        go_wp2_with fail
        go_roundw
        case rel => exact ⟨3, by go_num, by omega, HO6.out, HK6.out, ⟨fun _ => HJ.out.1 (by omega), fun _ => HJ.out.2.1 (by omega), fun _ => HEk.out, fun h => by omega, fun h => by omega⟩⟩
        case measure => simp [intOf]
      · have hfe := HF2.out (HJ.out.1 (by omega)) (HJ.out.2.1 (by omega)) hk
        have hfz := HFZ.out (by rw [hfe]; exact hk)
        have hb : (E2 != 0) = true := by simpa using hk
        subst hfe hfz
        clear hk
        go_wp2_with fail
        refine (M2.out _).mono ?_
        rintro e w5 ⟨rfl, rfl⟩
        have HB5 := Lib.hid (HB0.out.kp HKr.out (fun x => x))
        have HK5 := Lib.hid (HK0.out.trans HKr.out)
        go_wp2_with (first
          | (refine wp_set_row rfl 46 (.tmp 2) (.tmp 26) rfl HB5.out (enFl zF) rfl rfl infoF rfl (oneF zF) ?_
             intro W8 hB8 hO8 hK8
             have HB8 := Lib.hid hB8; have HK8 := Lib.hid (hK8 _ _ HK5.out (.inr hrl))
             clear hB8 hO8 hK8))
        refine ret_row2 (by rfl) HB8.out _ Tryd.underlying46 rfl infoF (by rfl) ?_
        exact ⟨rfl, HK8.out⟩
    · have x3 := HKr.out.cell (a := ⟨g, 4, none⟩) HC3.out (fun x => x)
      by_cases hk : E3 = 0
      · have HEk := Lib.hid hk
        subst hk
        go_wp2_with fail
        refine (M3.out _).mono ?_
        rintro e w5 ⟨rfl, rfl⟩
        go_wp2_with (at_builtin; refine wp_app1 tU64 (.tmp 28) (.tmp 30) rfl rfl w0.heap.size (HO.out.alloc _) [.int .u64 n3] rfl rfl rfl (heap_new _ _) rfl (by omega) (by omega) (by simp; omega) ?_)
        intro g6 cap6 w6 hown6 hgrow6
        have HO6 := Lib.hid hown6
        have HK6 : Hid (Kp none' w0 w6) := (HKr.out.alloc _).grown hgrow6 (fun b e => .inr (own_block HO.out e).1)
        clear hown6 hgrow6
        go_wp2_with fail
        go_roundw
        case rel => exact ⟨4, by go_num, by omega, HO6.out, HK6.out, ⟨fun _ => HJ.out.1 (by omega), fun _ => HJ.out.2.1 (by omega), fun _ => HJ.out.2.2.1 (by omega), fun _ => HEk.out, fun h => by omega⟩⟩
        case measure => simp [intOf]
      · have hfe := HF3.out (HJ.out.1 (by omega)) (HJ.out.2.1 (by omega)) (HJ.out.2.2.1 (by omega)) hk
        have hfz := HFZ.out (by rw [hfe]; exact hk)
        have hb : (E3 != 0) = true := by simpa using hk
        subst hfe hfz
        clear hk
        go_wp2_with fail
        refine (M3.out _).mono ?_
        rintro e w5 ⟨rfl, rfl⟩
        have HB5 := Lib.hid (HB0.out.kp HKr.out (fun x => x))
        have HK5 := Lib.hid (HK0.out.trans HKr.out)
        go_wp2_with (first
          | (refine wp_set_row rfl 46 (.tmp 2) (.tmp 26) rfl HB5.out (enFl zF) rfl rfl infoF rfl (oneF zF) ?_
             intro W8 hB8 hO8 hK8
             have HB8 := Lib.hid hB8; have HK8 := Lib.hid (hK8 _ _ HK5.out (.inr hrl))
             clear hB8 hO8 hK8))
        refine ret_row2 (by rfl) HB8.out _ Tryd.underlying46 rfl infoF (by rfl) ?_
        exact ⟨rfl, HK8.out⟩
    · have x4 := HKr.out.cell (a := ⟨g, 5, none⟩) HC4.out (fun x => x)
      by_cases hk : E4 = 0
      · have HEk := Lib.hid hk
        subst hk
        go_wp2_with fail
        refine (M4.out _).mono ?_
        rintro e w5 ⟨rfl, rfl⟩
        go_wp2_with (at_builtin; refine wp_app1 tU64 (.tmp 28) (.tmp 30) rfl rfl w0.heap.size (HO.out.alloc _) [.int .u64 n4] rfl rfl rfl (heap_new _ _) rfl (by omega) (by omega) (by simp; omega) ?_)
        intro g6 cap6 w6 hown6 hgrow6
        have HO6 := Lib.hid hown6
        have HK6 : Hid (Kp none' w0 w6) := (HKr.out.alloc _).grown hgrow6 (fun b e => .inr (own_block HO.out e).1)
        clear hown6 hgrow6
        go_wp2_with fail
        go_roundw
        case rel => exact ⟨5, by go_num, by omega, HO6.out, HK6.out, ⟨fun _ => HJ.out.1 (by omega), fun _ => HJ.out.2.1 (by omega), fun _ => HJ.out.2.2.1 (by omega), fun _ => HJ.out.2.2.2.1 (by omega), fun _ => HEk.out⟩⟩
        case measure => simp [intOf]
      · have hfe := HF4.out (HJ.out.1 (by omega)) (HJ.out.2.1 (by omega)) (HJ.out.2.2.1 (by omega)) (HJ.out.2.2.2.1 (by omega)) hk
        have hfz := HFZ.out (by rw [hfe]; exact hk)
        have hb : (E4 != 0) = true := by simpa using hk
        subst hfe hfz
        clear hk
        go_wp2_with fail
        refine (M4.out _).mono ?_
        rintro e w5 ⟨rfl, rfl⟩
        have HB5 := Lib.hid (HB0.out.kp HKr.out (fun x => x))
        have HK5 := Lib.hid (HK0.out.trans HKr.out)
        go_wp2_with (first
          | (refine wp_set_row rfl 46 (.tmp 2) (.tmp 26) rfl HB5.out (enFl zF) rfl rfl infoF rfl (oneF zF) ?_
             intro W8 hB8 hO8 hK8
             have HB8 := Lib.hid hB8; have HK8 := Lib.hid (hK8 _ _ HK5.out (.inr hrl))
             clear hB8 hO8 hK8))
        refine ret_row2 (by rfl) HB8.out _ Tryd.underlying46 rfl infoF (by rfl) ?_
        exact ⟨rfl, HK8.out⟩
    · have hh0 := HJ.out.1 (by omega)
      have hh1 := HJ.out.2.1 (by omega)
      have hh2 := HJ.out.2.2.1 (by omega)
      have hh3 := HJ.out.2.2.2.1 (by omega)
      have hh4 := HJ.out.2.2.2.2 (by omega)
      obtain ⟨hF, hf0⟩ := HF5.out hh0 hh1 hh2 hh3 hh4
      obtain ⟨gn, cn, e, _⟩ := own_shape1 HO.out (by omega)
      injection e with e1 _ e3
      subst e1
      have HON := Lib.hid HO.out
      have a0 := own_cell HO.out 0 (u := .int .u64 n0) rfl
      have a1 := own_cell HO.out 1 (u := .int .u64 n1) rfl
      have a2 := own_cell HO.out 2 (u := .int .u64 n2) rfl
      have a3 := own_cell HO.out 3 (u := .int .u64 n3) rfl
      have a4 := own_cell HO.out 4 (u := .int .u64 n4) rfl
      have HBR := Lib.hid (HB0.out.kp HKr.out (fun x => x))
      subst hF hf0
      clear hh0 hh1 hh2 hh3 hh4 HO HJ
      go_wp2_with fail
      refine wp_region_kept2 [] [0, 1, 2, 3, 4, 5, 6, 7, 8, 9, 10, 11, 12, 13, 14, 15, 16] 17 (by kernel_rfl) (by kernel_rfl) (fun c a d u w h => by cases d <;> exact h) ?_
      simp only [pick, List.getElem?_cons_succ, List.getElem?_cons_zero, List.drop_succ_cons, List.drop_zero]
      show wpKL _ _ _ _ _ _
      repeat (first
        | (refine wpKL_op (by exact rfl) (by as_aux_lemma => intro W hK; have e0 := hK.cell a0 (fun x => x); have e1 := hK.cell a1 (fun x => x); have e2 := hK.cell a2 (fun x => x); have e3 := hK.cell a3 (fun x => x); have e4 := hK.cell a4 (fun x => x); go_simp; exact rfl) ?_; simp only [Act.put, List.setIfInBounds_toArray, List.set_cons_succ, List.set_cons_zero])
        | (refine wpKL_off (by exact rfl) ?_; simp only [Act.put, List.setIfInBounds_toArray, List.set_cons_succ, List.set_cons_zero]))
      show ∀ W, _ → wpList _ _ _ _ _ _
      intro W6 hK6
      have HB6 := Lib.hid (HBR.out.kp hK6 (fun x => x))
      have HK6 := Lib.hid ((HK0.out.trans HKr.out).trans hK6)
      clear hK6 a0 a1 a2 a3 a4
      go_wp2_with (first
        | (refine wp_set_row rfl 46 (.tmp 2) (.tmp 48) rfl HB6.out (enFl ⟨n0, n1, n2, n3, n4⟩) rfl rfl infoF rfl (oneF _) ?_
           intro W8 hB8 hO8 hK8
           have HB8 := Lib.hid hB8; have HK8 := Lib.hid (hK8 _ _ HK6.out (.inr hrl))
           clear hB8 hO8 hK8))
      refine ret_row2 (by rfl) HB8.out _ Tryd.underlying46 rfl infoF (by rfl) ?_
      exact ⟨rfl, HK8.out⟩

/-- A configuration behind a line. -/
def sayC (c : CfR) (i n : Nat) (E : Int) : CfR := if E = 0 then setAt c i n else c
set_option maxRecDepth 100000 in
set_option maxHeartbeats 8000000 in
theorem rSay0 (c : CfR) (v : Value) (hv : v.oneCell' = true) (s : ByteArray) (hs : s.size ≤ 1000000) (n : Nat) (E : Int) (h : sayE 0 (bl s) = (n, E)) (w : World) : Calls Tryd.prog 35 #[.agg (enC c v).toArray, .int .i64 0, .string s] w fun e w' => e = .returned (.tuple #[.agg (enC (sayC c 0 n E) v).toArray, .int .i64 E]) ∧ Kp none' w w' := by
  have hb0 : Blk ((w.alloc (.cells (enC c v).toArray 25)).alloc (.cells (enC zC (.slice none 0 0)).toArray 25)) w.heap.size (enC c v) 25 := (Blk.new w (enC c v) 25).alloc _
  have hb1 : Blk ((w.alloc (.cells (enC c v).toArray 25)).alloc (.cells (enC zC (.slice none 0 0)).toArray 25)) (w.heap.size + 1) (enC zC (.slice none 0 0)) 25 := by
    have := Blk.new (w.alloc (.cells (enC c v).toArray 25)) (enC zC (.slice none 0 0)) 25
    rwa [World.size_alloc] at this
  have hk : Kp none' w ((w.alloc (.cells (enC c v).toArray 25)).alloc (.cells (enC zC (.slice none 0 0)).toArray 25)) := ((Kp.refl _ _).alloc _).alloc _
  obtain ⟨w0, hw0⟩ : ∃ W, (w.alloc (.cells #[.int .i64 c.rank, .int .i64 c.back, .int .i64 c.levels, .int .i64 c.queues, .int .i64 c.packets, .int .u64 c.bytes, .int .i64 c.share, .int .u64 c.mtu, .int .u64 c.rate, .int .u64 c.burst, v] 25)).alloc (.cells #[.int .i64 0, .int .i64 0, .int .i64 0, .int .i64 0, .int .i64 0, .int .u64 0, .int .i64 0, .int .u64 0, .int .u64 0, .int .u64 0, .slice none 0 0] 25) = W := ⟨_, rfl⟩
  have hw1 : (w.alloc (.cells (enC c v).toArray 25)).alloc (.cells (enC zC (.slice none 0 0)).toArray 25) = w0 := hw0
  rw [hw1] at hb0 hb1 hk
  have HB0 := Lib.hid hb0; have HB1 := Lib.hid hb1; have HK := Lib.hid hk
  have HV := Lib.hid hv
  clear hb0 hb1 hk hw1 hv
  have hn : kindN krs (bl s) = n := (Prod.mk.inj h).1
  have hE : (if n = 0 then (22 : Int) else 0) = E := by
    have h2 := (Prod.mk.inj h).2
    have h3 : (if kindN krs (bl s) = 0 then (22 : Int) else 0) = E := h2
    rw [hn] at h3; exact h3
  have HQ := Lib.hid (fun W => rKind false s n hn W)
  have HEE := Lib.hid hE
  clear h hn hE
  unfold enC
  go_enter Tryd.func35, Tryd.ntmps35
  go_wp2_with fail
  clear hw0
  have hrl : w.heap.size ≤ w.heap.size + 1 := Nat.le_succ _
  have hne : w.heap.size ≠ w.heap.size + 1 := by omega
  refine (HQ.out _).mono ?_
  rintro e w2 ⟨rfl, k2⟩
  have HB2 := Lib.hid (HB0.out.kp k2 (fun x => x)); have HR2 := Lib.hid (HB1.out.kp k2 (fun x => x)); have HK2 := Lib.hid (HK.out.trans k2)
  clear k2 HB0 HB1 HK HQ
  obtain ⟨cb, hcb⟩ : ∃ x, w.heap.size = x := ⟨_, rfl⟩
  have HLO : Hid (w.heap.size ≤ cb) := by show _ ≤ _; omega
  have HLO1 : Hid (w.heap.size ≤ cb + 1) := by show _ ≤ _; omega
  rw [hcb] at HB2 HR2 hne ⊢
  clear hcb hrl
  by_cases h0 : E = 0
  · have HS : Hid (sayC c 0 n E = setAt c 0 n) := by show _ = _; unfold sayC; rw [if_pos h0]
    have hn0 : (((n : Nat) : Int) == 0) = false := by
      rw [beq_eq_false_iff_ne]; intro e
      have e2 : n = 0 := by omega
      have := HEE.out
      rw [if_pos e2, h0] at this; cases this
    subst h0
    have y0 := HB2.out.cell 0 rfl
    have y1 := HB2.out.fz 0
    have HB3 : Hid (Blk (w2.setCell ⟨cb, 0, none⟩ (.int .i64 n)) cb (enC (setAt c 0 n) v) 25) := HB2.out.set 0 _
    have HR3 : Hid (Blk (w2.setCell ⟨cb, 0, none⟩ (.int .i64 n)) (cb + 1) (enC zC (.slice none 0 0)) 25) := HR2.out.setNe (fun e => by have e2 : cb + 1 = cb := e; omega) _
    have HK3 : Hid (Kp none' w (w2.setCell ⟨cb, 0, none⟩ (.int .i64 n))) := HK2.out.set (.inr (HLO.out)) _
    go_wp2_with (first
      | (refine wp_get_row rfl 25 (.tmp 3) rfl HB3.out _ rfl Tryd.underlying25 rfl infoC ?_)
      | (refine wp_set_row rfl 25 (.tmp 6) (.tmp 27) rfl HR3.out (enC (setAt c 0 n) v) rfl rfl infoC rfl (oneC _ HV.out) ?_
         intro W8 hB8 hO8 hK8
         have HB8 := Lib.hid hB8; have HK8 := Lib.hid (hK8 _ _ HK3.out (.inr HLO1.out))
         clear hB8 hO8 hK8))
    refine ret_row2 (by rfl) HB8.out _ Tryd.underlying25 rfl infoC (by rfl) ?_
    exact ⟨by rw [HS.out]; rfl, HK8.out⟩
  · have HS : Hid (sayC c 0 n E = c) := by show _ = _; unfold sayC; rw [if_neg h0]
    have hn0 : n = 0 := by
      by_cases e2 : n = 0
      · exact e2
      · have := HEE.out
        rw [if_neg e2] at this; exact absurd this.symm h0
    have hE2 : E = 22 := by have := HEE.out; rw [if_pos hn0] at this; exact this.symm
    subst hn0 hE2
    clear h0
    go_wp2_with (first
      | (refine wp_get_row rfl 25 (.tmp 3) rfl HB2.out _ rfl Tryd.underlying25 rfl infoC ?_)
      | (refine wp_set_row rfl 25 (.tmp 6) (.tmp 20) rfl HR2.out (enC c v) rfl rfl infoC rfl (oneC _ HV.out) ?_
         intro W8 hB8 hO8 hK8
         have HB8 := Lib.hid hB8; have HK8 := Lib.hid (hK8 _ _ HK2.out (.inr HLO1.out))
         clear hB8 hO8 hK8))
    refine ret_row2 (by rfl) HB8.out _ Tryd.underlying25 rfl infoC (by rfl) ?_
    exact ⟨by rw [HS.out]; rfl, HK8.out⟩
set_option maxRecDepth 100000 in
set_option maxHeartbeats 8000000 in
theorem rSay1 (c : CfR) (v : Value) (hv : v.oneCell' = true) (s : ByteArray) (hs : s.size ≤ 1000000) (n : Nat) (E : Int) (h : sayE 1 (bl s) = (n, E)) (w : World) : Calls Tryd.prog 35 #[.agg (enC c v).toArray, .int .i64 1, .string s] w fun e w' => e = .returned (.tuple #[.agg (enC (sayC c 1 n E) v).toArray, .int .i64 E]) ∧ Kp none' w w' := by
  have hb0 : Blk ((w.alloc (.cells (enC c v).toArray 25)).alloc (.cells (enC zC (.slice none 0 0)).toArray 25)) w.heap.size (enC c v) 25 := (Blk.new w (enC c v) 25).alloc _
  have hb1 : Blk ((w.alloc (.cells (enC c v).toArray 25)).alloc (.cells (enC zC (.slice none 0 0)).toArray 25)) (w.heap.size + 1) (enC zC (.slice none 0 0)) 25 := by
    have := Blk.new (w.alloc (.cells (enC c v).toArray 25)) (enC zC (.slice none 0 0)) 25
    rwa [World.size_alloc] at this
  have hk : Kp none' w ((w.alloc (.cells (enC c v).toArray 25)).alloc (.cells (enC zC (.slice none 0 0)).toArray 25)) := ((Kp.refl _ _).alloc _).alloc _
  obtain ⟨w0, hw0⟩ : ∃ W, (w.alloc (.cells #[.int .i64 c.rank, .int .i64 c.back, .int .i64 c.levels, .int .i64 c.queues, .int .i64 c.packets, .int .u64 c.bytes, .int .i64 c.share, .int .u64 c.mtu, .int .u64 c.rate, .int .u64 c.burst, v] 25)).alloc (.cells #[.int .i64 0, .int .i64 0, .int .i64 0, .int .i64 0, .int .i64 0, .int .u64 0, .int .i64 0, .int .u64 0, .int .u64 0, .int .u64 0, .slice none 0 0] 25) = W := ⟨_, rfl⟩
  have hw1 : (w.alloc (.cells (enC c v).toArray 25)).alloc (.cells (enC zC (.slice none 0 0)).toArray 25) = w0 := hw0
  rw [hw1] at hb0 hb1 hk
  have HB0 := Lib.hid hb0; have HB1 := Lib.hid hb1; have HK := Lib.hid hk
  have HV := Lib.hid hv
  clear hb0 hb1 hk hw1 hv
  have hn : kindN kbs (bl s) = n := (Prod.mk.inj h).1
  have hE : (if n = 0 then (22 : Int) else 0) = E := by
    have h2 := (Prod.mk.inj h).2
    have h3 : (if kindN kbs (bl s) = 0 then (22 : Int) else 0) = E := h2
    rw [hn] at h3; exact h3
  have HQ := Lib.hid (fun W => rKind true s n hn W)
  have HEE := Lib.hid hE
  clear h hn hE
  unfold enC
  go_enter Tryd.func35, Tryd.ntmps35
  go_wp2_with fail
  clear hw0
  have hrl : w.heap.size ≤ w.heap.size + 1 := Nat.le_succ _
  have hne : w.heap.size ≠ w.heap.size + 1 := by omega
  refine (HQ.out _).mono ?_
  rintro e w2 ⟨rfl, k2⟩
  have HB2 := Lib.hid (HB0.out.kp k2 (fun x => x)); have HR2 := Lib.hid (HB1.out.kp k2 (fun x => x)); have HK2 := Lib.hid (HK.out.trans k2)
  clear k2 HB0 HB1 HK HQ
  obtain ⟨cb, hcb⟩ : ∃ x, w.heap.size = x := ⟨_, rfl⟩
  have HLO : Hid (w.heap.size ≤ cb) := by show _ ≤ _; omega
  have HLO1 : Hid (w.heap.size ≤ cb + 1) := by show _ ≤ _; omega
  rw [hcb] at HB2 HR2 hne ⊢
  clear hcb hrl
  by_cases h0 : E = 0
  · have HS : Hid (sayC c 1 n E = setAt c 1 n) := by show _ = _; unfold sayC; rw [if_pos h0]
    have hn0 : (((n : Nat) : Int) == 0) = false := by
      rw [beq_eq_false_iff_ne]; intro e
      have e2 : n = 0 := by omega
      have := HEE.out
      rw [if_pos e2, h0] at this; cases this
    subst h0
    have y0 := HB2.out.cell 1 rfl
    have y1 := HB2.out.fz 1
    have HB3 : Hid (Blk (w2.setCell ⟨cb, 1, none⟩ (.int .i64 n)) cb (enC (setAt c 1 n) v) 25) := HB2.out.set 1 _
    have HR3 : Hid (Blk (w2.setCell ⟨cb, 1, none⟩ (.int .i64 n)) (cb + 1) (enC zC (.slice none 0 0)) 25) := HR2.out.setNe (fun e => by have e2 : cb + 1 = cb := e; omega) _
    have HK3 : Hid (Kp none' w (w2.setCell ⟨cb, 1, none⟩ (.int .i64 n))) := HK2.out.set (.inr (HLO.out)) _
    go_wp2_with (first
      | (refine wp_get_row rfl 25 (.tmp 3) rfl HB3.out _ rfl Tryd.underlying25 rfl infoC ?_)
      | (refine wp_set_row rfl 25 (.tmp 6) (.tmp 27) rfl HR3.out (enC (setAt c 1 n) v) rfl rfl infoC rfl (oneC _ HV.out) ?_
         intro W8 hB8 hO8 hK8
         have HB8 := Lib.hid hB8; have HK8 := Lib.hid (hK8 _ _ HK3.out (.inr HLO1.out))
         clear hB8 hO8 hK8))
    refine ret_row2 (by rfl) HB8.out _ Tryd.underlying25 rfl infoC (by rfl) ?_
    exact ⟨by rw [HS.out]; rfl, HK8.out⟩
  · have HS : Hid (sayC c 1 n E = c) := by show _ = _; unfold sayC; rw [if_neg h0]
    have hn0 : n = 0 := by
      by_cases e2 : n = 0
      · exact e2
      · have := HEE.out
        rw [if_neg e2] at this; exact absurd this.symm h0
    have hE2 : E = 22 := by have := HEE.out; rw [if_pos hn0] at this; exact this.symm
    subst hn0 hE2
    clear h0
    go_wp2_with (first
      | (refine wp_get_row rfl 25 (.tmp 3) rfl HB2.out _ rfl Tryd.underlying25 rfl infoC ?_)
      | (refine wp_set_row rfl 25 (.tmp 6) (.tmp 20) rfl HR2.out (enC c v) rfl rfl infoC rfl (oneC _ HV.out) ?_
         intro W8 hB8 hO8 hK8
         have HB8 := Lib.hid hB8; have HK8 := Lib.hid (hK8 _ _ HK2.out (.inr HLO1.out))
         clear hB8 hO8 hK8))
    refine ret_row2 (by rfl) HB8.out _ Tryd.underlying25 rfl infoC (by rfl) ?_
    exact ⟨by rw [HS.out]; rfl, HK8.out⟩
set_option maxRecDepth 100000 in
set_option maxHeartbeats 8000000 in
theorem rSay2 (c : CfR) (v : Value) (hv : v.oneCell' = true) (s : ByteArray) (hs : s.size ≤ 1000000) (n : Nat) (E : Int) (h : sayE 2 (bl s) = (n, E)) (w : World) : Calls Tryd.prog 35 #[.agg (enC c v).toArray, .int .i64 2, .string s] w fun e w' => e = .returned (.tuple #[.agg (enC (sayC c 2 n E) v).toArray, .int .i64 E]) ∧ Kp none' w w' := by
  have hb0 : Blk ((w.alloc (.cells (enC c v).toArray 25)).alloc (.cells (enC zC (.slice none 0 0)).toArray 25)) w.heap.size (enC c v) 25 := (Blk.new w (enC c v) 25).alloc _
  have hb1 : Blk ((w.alloc (.cells (enC c v).toArray 25)).alloc (.cells (enC zC (.slice none 0 0)).toArray 25)) (w.heap.size + 1) (enC zC (.slice none 0 0)) 25 := by
    have := Blk.new (w.alloc (.cells (enC c v).toArray 25)) (enC zC (.slice none 0 0)) 25
    rwa [World.size_alloc] at this
  have hk : Kp none' w ((w.alloc (.cells (enC c v).toArray 25)).alloc (.cells (enC zC (.slice none 0 0)).toArray 25)) := ((Kp.refl _ _).alloc _).alloc _
  obtain ⟨w0, hw0⟩ : ∃ W, (w.alloc (.cells #[.int .i64 c.rank, .int .i64 c.back, .int .i64 c.levels, .int .i64 c.queues, .int .i64 c.packets, .int .u64 c.bytes, .int .i64 c.share, .int .u64 c.mtu, .int .u64 c.rate, .int .u64 c.burst, v] 25)).alloc (.cells #[.int .i64 0, .int .i64 0, .int .i64 0, .int .i64 0, .int .i64 0, .int .u64 0, .int .i64 0, .int .u64 0, .int .u64 0, .int .u64 0, .slice none 0 0] 25) = W := ⟨_, rfl⟩
  have hw1 : (w.alloc (.cells (enC c v).toArray 25)).alloc (.cells (enC zC (.slice none 0 0)).toArray 25) = w0 := hw0
  rw [hw1] at hb0 hb1 hk
  have HB0 := Lib.hid hb0; have HB1 := Lib.hid hb1; have HK := Lib.hid hk
  have HV := Lib.hid hv
  clear hb0 hb1 hk hw1 hv
  have hq : numE 2147483647 (bl s) = (n, E) := h
  have hle := numE_le 2147483647 (bl s)
  rw [hq] at hle
  simp only at hle
  have HQ := Lib.hid (fun W => calls_same (rNum s hs 2147483647 n E hq W))
  clear h hq
  unfold enC
  go_enter Tryd.func35, Tryd.ntmps35
  go_wp2_with fail
  clear hw0
  have hrl : w.heap.size ≤ w.heap.size + 1 := Nat.le_succ _
  have hne : w.heap.size ≠ w.heap.size + 1 := by omega
  refine (HQ.out _).mono ?_
  rintro e w2 ⟨rfl, k2⟩
  have HB2 := Lib.hid (HB0.out.kp k2 (fun x => x)); have HR2 := Lib.hid (HB1.out.kp k2 (fun x => x)); have HK2 := Lib.hid (HK.out.trans k2)
  clear k2 HB0 HB1 HK HQ
  obtain ⟨cb, hcb⟩ : ∃ x, w.heap.size = x := ⟨_, rfl⟩
  have HLO : Hid (w.heap.size ≤ cb) := by show _ ≤ _; omega
  have HLO1 : Hid (w.heap.size ≤ cb + 1) := by show _ ≤ _; omega
  rw [hcb] at HB2 HR2 hne ⊢
  clear hcb hrl
  by_cases h0 : E = 0
  · have HS : Hid (sayC c 2 n E = setAt c 2 n) := by show _ = _; unfold sayC; rw [if_pos h0]
    have hwn : IntKind.i64.wrap (n : Int) = n := IntWalk.i64_in _ (by omega)
    subst h0
    have y0 := HB2.out.cell 2 rfl
    have y1 := HB2.out.fz 2
    have HB3 : Hid (Blk (w2.setCell ⟨cb, 2, none⟩ (.int .i64 n)) cb (enC (setAt c 2 n) v) 25) := HB2.out.set 2 _
    have HR3 : Hid (Blk (w2.setCell ⟨cb, 2, none⟩ (.int .i64 n)) (cb + 1) (enC zC (.slice none 0 0)) 25) := HR2.out.setNe (fun e => by have e2 : cb + 1 = cb := e; omega) _
    have HK3 : Hid (Kp none' w (w2.setCell ⟨cb, 2, none⟩ (.int .i64 n))) := HK2.out.set (.inr (HLO.out)) _
    go_wp2_with (first
      | (refine wp_get_row rfl 25 (.tmp 3) rfl HB3.out _ rfl Tryd.underlying25 rfl infoC ?_)
      | (refine wp_set_row rfl 25 (.tmp 6) (.tmp 87) rfl HR3.out (enC (setAt c 2 n) v) rfl rfl infoC rfl (oneC _ HV.out) ?_
         intro W8 hB8 hO8 hK8
         have HB8 := Lib.hid hB8; have HK8 := Lib.hid (hK8 _ _ HK3.out (.inr HLO1.out))
         clear hB8 hO8 hK8))
    refine ret_row2 (by rfl) HB8.out _ Tryd.underlying25 rfl infoC (by rfl) ?_
    exact ⟨by rw [HS.out]; rfl, HK8.out⟩
  · have HS : Hid (sayC c 2 n E = c) := by show _ = _; unfold sayC; rw [if_neg h0]
    have hb : (E != 0) = true := by simpa using h0
    clear h0
    go_wp2_with (first
      | (refine wp_get_row rfl 25 (.tmp 3) rfl HB2.out _ rfl Tryd.underlying25 rfl infoC ?_)
      | (refine wp_set_row rfl 25 (.tmp 6) (.tmp 50) rfl HR2.out (enC c v) rfl rfl infoC rfl (oneC _ HV.out) ?_
         intro W8 hB8 hO8 hK8
         have HB8 := Lib.hid hB8; have HK8 := Lib.hid (hK8 _ _ HK2.out (.inr HLO1.out))
         clear hB8 hO8 hK8))
    refine ret_row2 (by rfl) HB8.out _ Tryd.underlying25 rfl infoC (by rfl) ?_
    exact ⟨by rw [HS.out]; rfl, HK8.out⟩
set_option maxRecDepth 100000 in
set_option maxHeartbeats 8000000 in
theorem rSay3 (c : CfR) (v : Value) (hv : v.oneCell' = true) (s : ByteArray) (hs : s.size ≤ 1000000) (n : Nat) (E : Int) (h : sayE 3 (bl s) = (n, E)) (w : World) : Calls Tryd.prog 35 #[.agg (enC c v).toArray, .int .i64 3, .string s] w fun e w' => e = .returned (.tuple #[.agg (enC (sayC c 3 n E) v).toArray, .int .i64 E]) ∧ Kp none' w w' := by
  have hb0 : Blk ((w.alloc (.cells (enC c v).toArray 25)).alloc (.cells (enC zC (.slice none 0 0)).toArray 25)) w.heap.size (enC c v) 25 := (Blk.new w (enC c v) 25).alloc _
  have hb1 : Blk ((w.alloc (.cells (enC c v).toArray 25)).alloc (.cells (enC zC (.slice none 0 0)).toArray 25)) (w.heap.size + 1) (enC zC (.slice none 0 0)) 25 := by
    have := Blk.new (w.alloc (.cells (enC c v).toArray 25)) (enC zC (.slice none 0 0)) 25
    rwa [World.size_alloc] at this
  have hk : Kp none' w ((w.alloc (.cells (enC c v).toArray 25)).alloc (.cells (enC zC (.slice none 0 0)).toArray 25)) := ((Kp.refl _ _).alloc _).alloc _
  obtain ⟨w0, hw0⟩ : ∃ W, (w.alloc (.cells #[.int .i64 c.rank, .int .i64 c.back, .int .i64 c.levels, .int .i64 c.queues, .int .i64 c.packets, .int .u64 c.bytes, .int .i64 c.share, .int .u64 c.mtu, .int .u64 c.rate, .int .u64 c.burst, v] 25)).alloc (.cells #[.int .i64 0, .int .i64 0, .int .i64 0, .int .i64 0, .int .i64 0, .int .u64 0, .int .i64 0, .int .u64 0, .int .u64 0, .int .u64 0, .slice none 0 0] 25) = W := ⟨_, rfl⟩
  have hw1 : (w.alloc (.cells (enC c v).toArray 25)).alloc (.cells (enC zC (.slice none 0 0)).toArray 25) = w0 := hw0
  rw [hw1] at hb0 hb1 hk
  have HB0 := Lib.hid hb0; have HB1 := Lib.hid hb1; have HK := Lib.hid hk
  have HV := Lib.hid hv
  clear hb0 hb1 hk hw1 hv
  have hq : numE 2147483647 (bl s) = (n, E) := h
  have hle := numE_le 2147483647 (bl s)
  rw [hq] at hle
  simp only at hle
  have HQ := Lib.hid (fun W => calls_same (rNum s hs 2147483647 n E hq W))
  clear h hq
  unfold enC
  go_enter Tryd.func35, Tryd.ntmps35
  go_wp2_with fail
  clear hw0
  have hrl : w.heap.size ≤ w.heap.size + 1 := Nat.le_succ _
  have hne : w.heap.size ≠ w.heap.size + 1 := by omega
  refine (HQ.out _).mono ?_
  rintro e w2 ⟨rfl, k2⟩
  have HB2 := Lib.hid (HB0.out.kp k2 (fun x => x)); have HR2 := Lib.hid (HB1.out.kp k2 (fun x => x)); have HK2 := Lib.hid (HK.out.trans k2)
  clear k2 HB0 HB1 HK HQ
  obtain ⟨cb, hcb⟩ : ∃ x, w.heap.size = x := ⟨_, rfl⟩
  have HLO : Hid (w.heap.size ≤ cb) := by show _ ≤ _; omega
  have HLO1 : Hid (w.heap.size ≤ cb + 1) := by show _ ≤ _; omega
  rw [hcb] at HB2 HR2 hne ⊢
  clear hcb hrl
  by_cases h0 : E = 0
  · have HS : Hid (sayC c 3 n E = setAt c 3 n) := by show _ = _; unfold sayC; rw [if_pos h0]
    have hwn : IntKind.i64.wrap (n : Int) = n := IntWalk.i64_in _ (by omega)
    subst h0
    have y0 := HB2.out.cell 3 rfl
    have y1 := HB2.out.fz 3
    have HB3 : Hid (Blk (w2.setCell ⟨cb, 3, none⟩ (.int .i64 n)) cb (enC (setAt c 3 n) v) 25) := HB2.out.set 3 _
    have HR3 : Hid (Blk (w2.setCell ⟨cb, 3, none⟩ (.int .i64 n)) (cb + 1) (enC zC (.slice none 0 0)) 25) := HR2.out.setNe (fun e => by have e2 : cb + 1 = cb := e; omega) _
    have HK3 : Hid (Kp none' w (w2.setCell ⟨cb, 3, none⟩ (.int .i64 n))) := HK2.out.set (.inr (HLO.out)) _
    go_wp2_with (first
      | (refine wp_get_row rfl 25 (.tmp 3) rfl HB3.out _ rfl Tryd.underlying25 rfl infoC ?_)
      | (refine wp_set_row rfl 25 (.tmp 6) (.tmp 87) rfl HR3.out (enC (setAt c 3 n) v) rfl rfl infoC rfl (oneC _ HV.out) ?_
         intro W8 hB8 hO8 hK8
         have HB8 := Lib.hid hB8; have HK8 := Lib.hid (hK8 _ _ HK3.out (.inr HLO1.out))
         clear hB8 hO8 hK8))
    refine ret_row2 (by rfl) HB8.out _ Tryd.underlying25 rfl infoC (by rfl) ?_
    exact ⟨by rw [HS.out]; rfl, HK8.out⟩
  · have HS : Hid (sayC c 3 n E = c) := by show _ = _; unfold sayC; rw [if_neg h0]
    have hb : (E != 0) = true := by simpa using h0
    clear h0
    go_wp2_with (first
      | (refine wp_get_row rfl 25 (.tmp 3) rfl HB2.out _ rfl Tryd.underlying25 rfl infoC ?_)
      | (refine wp_set_row rfl 25 (.tmp 6) (.tmp 50) rfl HR2.out (enC c v) rfl rfl infoC rfl (oneC _ HV.out) ?_
         intro W8 hB8 hO8 hK8
         have HB8 := Lib.hid hB8; have HK8 := Lib.hid (hK8 _ _ HK2.out (.inr HLO1.out))
         clear hB8 hO8 hK8))
    refine ret_row2 (by rfl) HB8.out _ Tryd.underlying25 rfl infoC (by rfl) ?_
    exact ⟨by rw [HS.out]; rfl, HK8.out⟩
set_option maxRecDepth 100000 in
set_option maxHeartbeats 8000000 in
theorem rSay4 (c : CfR) (v : Value) (hv : v.oneCell' = true) (s : ByteArray) (hs : s.size ≤ 1000000) (n : Nat) (E : Int) (h : sayE 4 (bl s) = (n, E)) (w : World) : Calls Tryd.prog 35 #[.agg (enC c v).toArray, .int .i64 4, .string s] w fun e w' => e = .returned (.tuple #[.agg (enC (sayC c 4 n E) v).toArray, .int .i64 E]) ∧ Kp none' w w' := by
  have hb0 : Blk ((w.alloc (.cells (enC c v).toArray 25)).alloc (.cells (enC zC (.slice none 0 0)).toArray 25)) w.heap.size (enC c v) 25 := (Blk.new w (enC c v) 25).alloc _
  have hb1 : Blk ((w.alloc (.cells (enC c v).toArray 25)).alloc (.cells (enC zC (.slice none 0 0)).toArray 25)) (w.heap.size + 1) (enC zC (.slice none 0 0)) 25 := by
    have := Blk.new (w.alloc (.cells (enC c v).toArray 25)) (enC zC (.slice none 0 0)) 25
    rwa [World.size_alloc] at this
  have hk : Kp none' w ((w.alloc (.cells (enC c v).toArray 25)).alloc (.cells (enC zC (.slice none 0 0)).toArray 25)) := ((Kp.refl _ _).alloc _).alloc _
  obtain ⟨w0, hw0⟩ : ∃ W, (w.alloc (.cells #[.int .i64 c.rank, .int .i64 c.back, .int .i64 c.levels, .int .i64 c.queues, .int .i64 c.packets, .int .u64 c.bytes, .int .i64 c.share, .int .u64 c.mtu, .int .u64 c.rate, .int .u64 c.burst, v] 25)).alloc (.cells #[.int .i64 0, .int .i64 0, .int .i64 0, .int .i64 0, .int .i64 0, .int .u64 0, .int .i64 0, .int .u64 0, .int .u64 0, .int .u64 0, .slice none 0 0] 25) = W := ⟨_, rfl⟩
  have hw1 : (w.alloc (.cells (enC c v).toArray 25)).alloc (.cells (enC zC (.slice none 0 0)).toArray 25) = w0 := hw0
  rw [hw1] at hb0 hb1 hk
  have HB0 := Lib.hid hb0; have HB1 := Lib.hid hb1; have HK := Lib.hid hk
  have HV := Lib.hid hv
  clear hb0 hb1 hk hw1 hv
  have hq : numE 2147483647 (bl s) = (n, E) := h
  have hle := numE_le 2147483647 (bl s)
  rw [hq] at hle
  simp only at hle
  have HQ := Lib.hid (fun W => calls_same (rNum s hs 2147483647 n E hq W))
  clear h hq
  unfold enC
  go_enter Tryd.func35, Tryd.ntmps35
  go_wp2_with fail
  clear hw0
  have hrl : w.heap.size ≤ w.heap.size + 1 := Nat.le_succ _
  have hne : w.heap.size ≠ w.heap.size + 1 := by omega
  refine (HQ.out _).mono ?_
  rintro e w2 ⟨rfl, k2⟩
  have HB2 := Lib.hid (HB0.out.kp k2 (fun x => x)); have HR2 := Lib.hid (HB1.out.kp k2 (fun x => x)); have HK2 := Lib.hid (HK.out.trans k2)
  clear k2 HB0 HB1 HK HQ
  obtain ⟨cb, hcb⟩ : ∃ x, w.heap.size = x := ⟨_, rfl⟩
  have HLO : Hid (w.heap.size ≤ cb) := by show _ ≤ _; omega
  have HLO1 : Hid (w.heap.size ≤ cb + 1) := by show _ ≤ _; omega
  rw [hcb] at HB2 HR2 hne ⊢
  clear hcb hrl
  by_cases h0 : E = 0
  · have HS : Hid (sayC c 4 n E = setAt c 4 n) := by show _ = _; unfold sayC; rw [if_pos h0]
    have hwn : IntKind.i64.wrap (n : Int) = n := IntWalk.i64_in _ (by omega)
    subst h0
    have y0 := HB2.out.cell 4 rfl
    have y1 := HB2.out.fz 4
    have HB3 : Hid (Blk (w2.setCell ⟨cb, 4, none⟩ (.int .i64 n)) cb (enC (setAt c 4 n) v) 25) := HB2.out.set 4 _
    have HR3 : Hid (Blk (w2.setCell ⟨cb, 4, none⟩ (.int .i64 n)) (cb + 1) (enC zC (.slice none 0 0)) 25) := HR2.out.setNe (fun e => by have e2 : cb + 1 = cb := e; omega) _
    have HK3 : Hid (Kp none' w (w2.setCell ⟨cb, 4, none⟩ (.int .i64 n))) := HK2.out.set (.inr (HLO.out)) _
    go_wp2_with (first
      | (refine wp_get_row rfl 25 (.tmp 3) rfl HB3.out _ rfl Tryd.underlying25 rfl infoC ?_)
      | (refine wp_set_row rfl 25 (.tmp 6) (.tmp 87) rfl HR3.out (enC (setAt c 4 n) v) rfl rfl infoC rfl (oneC _ HV.out) ?_
         intro W8 hB8 hO8 hK8
         have HB8 := Lib.hid hB8; have HK8 := Lib.hid (hK8 _ _ HK3.out (.inr HLO1.out))
         clear hB8 hO8 hK8))
    refine ret_row2 (by rfl) HB8.out _ Tryd.underlying25 rfl infoC (by rfl) ?_
    exact ⟨by rw [HS.out]; rfl, HK8.out⟩
  · have HS : Hid (sayC c 4 n E = c) := by show _ = _; unfold sayC; rw [if_neg h0]
    have hb : (E != 0) = true := by simpa using h0
    clear h0
    go_wp2_with (first
      | (refine wp_get_row rfl 25 (.tmp 3) rfl HB2.out _ rfl Tryd.underlying25 rfl infoC ?_)
      | (refine wp_set_row rfl 25 (.tmp 6) (.tmp 50) rfl HR2.out (enC c v) rfl rfl infoC rfl (oneC _ HV.out) ?_
         intro W8 hB8 hO8 hK8
         have HB8 := Lib.hid hB8; have HK8 := Lib.hid (hK8 _ _ HK2.out (.inr HLO1.out))
         clear hB8 hO8 hK8))
    refine ret_row2 (by rfl) HB8.out _ Tryd.underlying25 rfl infoC (by rfl) ?_
    exact ⟨by rw [HS.out]; rfl, HK8.out⟩
set_option maxRecDepth 100000 in
set_option maxHeartbeats 8000000 in
theorem rSay5 (c : CfR) (v : Value) (hv : v.oneCell' = true) (s : ByteArray) (hs : s.size ≤ 1000000) (n : Nat) (E : Int) (h : sayE 5 (bl s) = (n, E)) (w : World) : Calls Tryd.prog 35 #[.agg (enC c v).toArray, .int .i64 5, .string s] w fun e w' => e = .returned (.tuple #[.agg (enC (sayC c 5 n E) v).toArray, .int .i64 E]) ∧ Kp none' w w' := by
  have hb0 : Blk ((w.alloc (.cells (enC c v).toArray 25)).alloc (.cells (enC zC (.slice none 0 0)).toArray 25)) w.heap.size (enC c v) 25 := (Blk.new w (enC c v) 25).alloc _
  have hb1 : Blk ((w.alloc (.cells (enC c v).toArray 25)).alloc (.cells (enC zC (.slice none 0 0)).toArray 25)) (w.heap.size + 1) (enC zC (.slice none 0 0)) 25 := by
    have := Blk.new (w.alloc (.cells (enC c v).toArray 25)) (enC zC (.slice none 0 0)) 25
    rwa [World.size_alloc] at this
  have hk : Kp none' w ((w.alloc (.cells (enC c v).toArray 25)).alloc (.cells (enC zC (.slice none 0 0)).toArray 25)) := ((Kp.refl _ _).alloc _).alloc _
  obtain ⟨w0, hw0⟩ : ∃ W, (w.alloc (.cells #[.int .i64 c.rank, .int .i64 c.back, .int .i64 c.levels, .int .i64 c.queues, .int .i64 c.packets, .int .u64 c.bytes, .int .i64 c.share, .int .u64 c.mtu, .int .u64 c.rate, .int .u64 c.burst, v] 25)).alloc (.cells #[.int .i64 0, .int .i64 0, .int .i64 0, .int .i64 0, .int .i64 0, .int .u64 0, .int .i64 0, .int .u64 0, .int .u64 0, .int .u64 0, .slice none 0 0] 25) = W := ⟨_, rfl⟩
  have hw1 : (w.alloc (.cells (enC c v).toArray 25)).alloc (.cells (enC zC (.slice none 0 0)).toArray 25) = w0 := hw0
  rw [hw1] at hb0 hb1 hk
  have HB0 := Lib.hid hb0; have HB1 := Lib.hid hb1; have HK := Lib.hid hk
  have HV := Lib.hid hv
  clear hb0 hb1 hk hw1 hv
  have hq : numE 18446744073709551615 (bl s) = (n, E) := h
  have hle := numE_le 18446744073709551615 (bl s)
  rw [hq] at hle
  simp only at hle
  have HQ := Lib.hid (fun W => calls_same (rNum s hs 18446744073709551615 n E hq W))
  clear h hq
  unfold enC
  go_enter Tryd.func35, Tryd.ntmps35
  go_wp2_with fail
  clear hw0
  have hrl : w.heap.size ≤ w.heap.size + 1 := Nat.le_succ _
  have hne : w.heap.size ≠ w.heap.size + 1 := by omega
  refine (HQ.out _).mono ?_
  rintro e w2 ⟨rfl, k2⟩
  have HB2 := Lib.hid (HB0.out.kp k2 (fun x => x)); have HR2 := Lib.hid (HB1.out.kp k2 (fun x => x)); have HK2 := Lib.hid (HK.out.trans k2)
  clear k2 HB0 HB1 HK HQ
  obtain ⟨cb, hcb⟩ : ∃ x, w.heap.size = x := ⟨_, rfl⟩
  have HLO : Hid (w.heap.size ≤ cb) := by show _ ≤ _; omega
  have HLO1 : Hid (w.heap.size ≤ cb + 1) := by show _ ≤ _; omega
  rw [hcb] at HB2 HR2 hne ⊢
  clear hcb hrl
  by_cases h0 : E = 0
  · have HS : Hid (sayC c 5 n E = setAt c 5 n) := by show _ = _; unfold sayC; rw [if_pos h0]
    skip
    subst h0
    have y0 := HB2.out.cell 5 rfl
    have y1 := HB2.out.fz 5
    have HB3 : Hid (Blk (w2.setCell ⟨cb, 5, none⟩ (.int .u64 n)) cb (enC (setAt c 5 n) v) 25) := HB2.out.set 5 _
    have HR3 : Hid (Blk (w2.setCell ⟨cb, 5, none⟩ (.int .u64 n)) (cb + 1) (enC zC (.slice none 0 0)) 25) := HR2.out.setNe (fun e => by have e2 : cb + 1 = cb := e; omega) _
    have HK3 : Hid (Kp none' w (w2.setCell ⟨cb, 5, none⟩ (.int .u64 n))) := HK2.out.set (.inr (HLO.out)) _
    go_wp2_with (first
      | (refine wp_get_row rfl 25 (.tmp 3) rfl HB3.out _ rfl Tryd.underlying25 rfl infoC ?_)
      | (refine wp_set_row rfl 25 (.tmp 6) (.tmp 87) rfl HR3.out (enC (setAt c 5 n) v) rfl rfl infoC rfl (oneC _ HV.out) ?_
         intro W8 hB8 hO8 hK8
         have HB8 := Lib.hid hB8; have HK8 := Lib.hid (hK8 _ _ HK3.out (.inr HLO1.out))
         clear hB8 hO8 hK8))
    refine ret_row2 (by rfl) HB8.out _ Tryd.underlying25 rfl infoC (by rfl) ?_
    exact ⟨by rw [HS.out]; rfl, HK8.out⟩
  · have HS : Hid (sayC c 5 n E = c) := by show _ = _; unfold sayC; rw [if_neg h0]
    have hb : (E != 0) = true := by simpa using h0
    clear h0
    go_wp2_with (first
      | (refine wp_get_row rfl 25 (.tmp 3) rfl HB2.out _ rfl Tryd.underlying25 rfl infoC ?_)
      | (refine wp_set_row rfl 25 (.tmp 6) (.tmp 50) rfl HR2.out (enC c v) rfl rfl infoC rfl (oneC _ HV.out) ?_
         intro W8 hB8 hO8 hK8
         have HB8 := Lib.hid hB8; have HK8 := Lib.hid (hK8 _ _ HK2.out (.inr HLO1.out))
         clear hB8 hO8 hK8))
    refine ret_row2 (by rfl) HB8.out _ Tryd.underlying25 rfl infoC (by rfl) ?_
    exact ⟨by rw [HS.out]; rfl, HK8.out⟩
set_option maxRecDepth 100000 in
set_option maxHeartbeats 8000000 in
theorem rSay6 (c : CfR) (v : Value) (hv : v.oneCell' = true) (s : ByteArray) (hs : s.size ≤ 1000000) (n : Nat) (E : Int) (h : sayE 6 (bl s) = (n, E)) (w : World) : Calls Tryd.prog 35 #[.agg (enC c v).toArray, .int .i64 6, .string s] w fun e w' => e = .returned (.tuple #[.agg (enC (sayC c 6 n E) v).toArray, .int .i64 E]) ∧ Kp none' w w' := by
  have hb0 : Blk ((w.alloc (.cells (enC c v).toArray 25)).alloc (.cells (enC zC (.slice none 0 0)).toArray 25)) w.heap.size (enC c v) 25 := (Blk.new w (enC c v) 25).alloc _
  have hb1 : Blk ((w.alloc (.cells (enC c v).toArray 25)).alloc (.cells (enC zC (.slice none 0 0)).toArray 25)) (w.heap.size + 1) (enC zC (.slice none 0 0)) 25 := by
    have := Blk.new (w.alloc (.cells (enC c v).toArray 25)) (enC zC (.slice none 0 0)) 25
    rwa [World.size_alloc] at this
  have hk : Kp none' w ((w.alloc (.cells (enC c v).toArray 25)).alloc (.cells (enC zC (.slice none 0 0)).toArray 25)) := ((Kp.refl _ _).alloc _).alloc _
  obtain ⟨w0, hw0⟩ : ∃ W, (w.alloc (.cells #[.int .i64 c.rank, .int .i64 c.back, .int .i64 c.levels, .int .i64 c.queues, .int .i64 c.packets, .int .u64 c.bytes, .int .i64 c.share, .int .u64 c.mtu, .int .u64 c.rate, .int .u64 c.burst, v] 25)).alloc (.cells #[.int .i64 0, .int .i64 0, .int .i64 0, .int .i64 0, .int .i64 0, .int .u64 0, .int .i64 0, .int .u64 0, .int .u64 0, .int .u64 0, .slice none 0 0] 25) = W := ⟨_, rfl⟩
  have hw1 : (w.alloc (.cells (enC c v).toArray 25)).alloc (.cells (enC zC (.slice none 0 0)).toArray 25) = w0 := hw0
  rw [hw1] at hb0 hb1 hk
  have HB0 := Lib.hid hb0; have HB1 := Lib.hid hb1; have HK := Lib.hid hk
  have HV := Lib.hid hv
  clear hb0 hb1 hk hw1 hv
  have hq : numE 2147483647 (bl s) = (n, E) := h
  have hle := numE_le 2147483647 (bl s)
  rw [hq] at hle
  simp only at hle
  have HQ := Lib.hid (fun W => calls_same (rNum s hs 2147483647 n E hq W))
  clear h hq
  unfold enC
  go_enter Tryd.func35, Tryd.ntmps35
  go_wp2_with fail
  clear hw0
  have hrl : w.heap.size ≤ w.heap.size + 1 := Nat.le_succ _
  have hne : w.heap.size ≠ w.heap.size + 1 := by omega
  refine (HQ.out _).mono ?_
  rintro e w2 ⟨rfl, k2⟩
  have HB2 := Lib.hid (HB0.out.kp k2 (fun x => x)); have HR2 := Lib.hid (HB1.out.kp k2 (fun x => x)); have HK2 := Lib.hid (HK.out.trans k2)
  clear k2 HB0 HB1 HK HQ
  obtain ⟨cb, hcb⟩ : ∃ x, w.heap.size = x := ⟨_, rfl⟩
  have HLO : Hid (w.heap.size ≤ cb) := by show _ ≤ _; omega
  have HLO1 : Hid (w.heap.size ≤ cb + 1) := by show _ ≤ _; omega
  rw [hcb] at HB2 HR2 hne ⊢
  clear hcb hrl
  by_cases h0 : E = 0
  · have HS : Hid (sayC c 6 n E = setAt c 6 n) := by show _ = _; unfold sayC; rw [if_pos h0]
    have hwn : IntKind.i64.wrap (n : Int) = n := IntWalk.i64_in _ (by omega)
    subst h0
    have y0 := HB2.out.cell 6 rfl
    have y1 := HB2.out.fz 6
    have HB3 : Hid (Blk (w2.setCell ⟨cb, 6, none⟩ (.int .i64 n)) cb (enC (setAt c 6 n) v) 25) := HB2.out.set 6 _
    have HR3 : Hid (Blk (w2.setCell ⟨cb, 6, none⟩ (.int .i64 n)) (cb + 1) (enC zC (.slice none 0 0)) 25) := HR2.out.setNe (fun e => by have e2 : cb + 1 = cb := e; omega) _
    have HK3 : Hid (Kp none' w (w2.setCell ⟨cb, 6, none⟩ (.int .i64 n))) := HK2.out.set (.inr (HLO.out)) _
    go_wp2_with (first
      | (refine wp_get_row rfl 25 (.tmp 3) rfl HB3.out _ rfl Tryd.underlying25 rfl infoC ?_)
      | (refine wp_set_row rfl 25 (.tmp 6) (.tmp 87) rfl HR3.out (enC (setAt c 6 n) v) rfl rfl infoC rfl (oneC _ HV.out) ?_
         intro W8 hB8 hO8 hK8
         have HB8 := Lib.hid hB8; have HK8 := Lib.hid (hK8 _ _ HK3.out (.inr HLO1.out))
         clear hB8 hO8 hK8))
    refine ret_row2 (by rfl) HB8.out _ Tryd.underlying25 rfl infoC (by rfl) ?_
    exact ⟨by rw [HS.out]; rfl, HK8.out⟩
  · have HS : Hid (sayC c 6 n E = c) := by show _ = _; unfold sayC; rw [if_neg h0]
    have hb : (E != 0) = true := by simpa using h0
    clear h0
    go_wp2_with (first
      | (refine wp_get_row rfl 25 (.tmp 3) rfl HB2.out _ rfl Tryd.underlying25 rfl infoC ?_)
      | (refine wp_set_row rfl 25 (.tmp 6) (.tmp 50) rfl HR2.out (enC c v) rfl rfl infoC rfl (oneC _ HV.out) ?_
         intro W8 hB8 hO8 hK8
         have HB8 := Lib.hid hB8; have HK8 := Lib.hid (hK8 _ _ HK2.out (.inr HLO1.out))
         clear hB8 hO8 hK8))
    refine ret_row2 (by rfl) HB8.out _ Tryd.underlying25 rfl infoC (by rfl) ?_
    exact ⟨by rw [HS.out]; rfl, HK8.out⟩
set_option maxRecDepth 100000 in
set_option maxHeartbeats 8000000 in
theorem rSay7 (c : CfR) (v : Value) (hv : v.oneCell' = true) (s : ByteArray) (hs : s.size ≤ 1000000) (n : Nat) (E : Int) (h : sayE 7 (bl s) = (n, E)) (w : World) : Calls Tryd.prog 35 #[.agg (enC c v).toArray, .int .i64 7, .string s] w fun e w' => e = .returned (.tuple #[.agg (enC (sayC c 7 n E) v).toArray, .int .i64 E]) ∧ Kp none' w w' := by
  have hb0 : Blk ((w.alloc (.cells (enC c v).toArray 25)).alloc (.cells (enC zC (.slice none 0 0)).toArray 25)) w.heap.size (enC c v) 25 := (Blk.new w (enC c v) 25).alloc _
  have hb1 : Blk ((w.alloc (.cells (enC c v).toArray 25)).alloc (.cells (enC zC (.slice none 0 0)).toArray 25)) (w.heap.size + 1) (enC zC (.slice none 0 0)) 25 := by
    have := Blk.new (w.alloc (.cells (enC c v).toArray 25)) (enC zC (.slice none 0 0)) 25
    rwa [World.size_alloc] at this
  have hk : Kp none' w ((w.alloc (.cells (enC c v).toArray 25)).alloc (.cells (enC zC (.slice none 0 0)).toArray 25)) := ((Kp.refl _ _).alloc _).alloc _
  obtain ⟨w0, hw0⟩ : ∃ W, (w.alloc (.cells #[.int .i64 c.rank, .int .i64 c.back, .int .i64 c.levels, .int .i64 c.queues, .int .i64 c.packets, .int .u64 c.bytes, .int .i64 c.share, .int .u64 c.mtu, .int .u64 c.rate, .int .u64 c.burst, v] 25)).alloc (.cells #[.int .i64 0, .int .i64 0, .int .i64 0, .int .i64 0, .int .i64 0, .int .u64 0, .int .i64 0, .int .u64 0, .int .u64 0, .int .u64 0, .slice none 0 0] 25) = W := ⟨_, rfl⟩
  have hw1 : (w.alloc (.cells (enC c v).toArray 25)).alloc (.cells (enC zC (.slice none 0 0)).toArray 25) = w0 := hw0
  rw [hw1] at hb0 hb1 hk
  have HB0 := Lib.hid hb0; have HB1 := Lib.hid hb1; have HK := Lib.hid hk
  have HV := Lib.hid hv
  clear hb0 hb1 hk hw1 hv
  have hq : numE 18446744073709551615 (bl s) = (n, E) := h
  have hle := numE_le 18446744073709551615 (bl s)
  rw [hq] at hle
  simp only at hle
  have HQ := Lib.hid (fun W => calls_same (rNum s hs 18446744073709551615 n E hq W))
  clear h hq
  unfold enC
  go_enter Tryd.func35, Tryd.ntmps35
  go_wp2_with fail
  clear hw0
  have hrl : w.heap.size ≤ w.heap.size + 1 := Nat.le_succ _
  have hne : w.heap.size ≠ w.heap.size + 1 := by omega
  refine (HQ.out _).mono ?_
  rintro e w2 ⟨rfl, k2⟩
  have HB2 := Lib.hid (HB0.out.kp k2 (fun x => x)); have HR2 := Lib.hid (HB1.out.kp k2 (fun x => x)); have HK2 := Lib.hid (HK.out.trans k2)
  clear k2 HB0 HB1 HK HQ
  obtain ⟨cb, hcb⟩ : ∃ x, w.heap.size = x := ⟨_, rfl⟩
  have HLO : Hid (w.heap.size ≤ cb) := by show _ ≤ _; omega
  have HLO1 : Hid (w.heap.size ≤ cb + 1) := by show _ ≤ _; omega
  rw [hcb] at HB2 HR2 hne ⊢
  clear hcb hrl
  by_cases h0 : E = 0
  · have HS : Hid (sayC c 7 n E = setAt c 7 n) := by show _ = _; unfold sayC; rw [if_pos h0]
    skip
    subst h0
    have y0 := HB2.out.cell 7 rfl
    have y1 := HB2.out.fz 7
    have HB3 : Hid (Blk (w2.setCell ⟨cb, 7, none⟩ (.int .u64 n)) cb (enC (setAt c 7 n) v) 25) := HB2.out.set 7 _
    have HR3 : Hid (Blk (w2.setCell ⟨cb, 7, none⟩ (.int .u64 n)) (cb + 1) (enC zC (.slice none 0 0)) 25) := HR2.out.setNe (fun e => by have e2 : cb + 1 = cb := e; omega) _
    have HK3 : Hid (Kp none' w (w2.setCell ⟨cb, 7, none⟩ (.int .u64 n))) := HK2.out.set (.inr (HLO.out)) _
    go_wp2_with (first
      | (refine wp_get_row rfl 25 (.tmp 3) rfl HB3.out _ rfl Tryd.underlying25 rfl infoC ?_)
      | (refine wp_set_row rfl 25 (.tmp 6) (.tmp 87) rfl HR3.out (enC (setAt c 7 n) v) rfl rfl infoC rfl (oneC _ HV.out) ?_
         intro W8 hB8 hO8 hK8
         have HB8 := Lib.hid hB8; have HK8 := Lib.hid (hK8 _ _ HK3.out (.inr HLO1.out))
         clear hB8 hO8 hK8))
    refine ret_row2 (by rfl) HB8.out _ Tryd.underlying25 rfl infoC (by rfl) ?_
    exact ⟨by rw [HS.out]; rfl, HK8.out⟩
  · have HS : Hid (sayC c 7 n E = c) := by show _ = _; unfold sayC; rw [if_neg h0]
    have hb : (E != 0) = true := by simpa using h0
    clear h0
    go_wp2_with (first
      | (refine wp_get_row rfl 25 (.tmp 3) rfl HB2.out _ rfl Tryd.underlying25 rfl infoC ?_)
      | (refine wp_set_row rfl 25 (.tmp 6) (.tmp 50) rfl HR2.out (enC c v) rfl rfl infoC rfl (oneC _ HV.out) ?_
         intro W8 hB8 hO8 hK8
         have HB8 := Lib.hid hB8; have HK8 := Lib.hid (hK8 _ _ HK2.out (.inr HLO1.out))
         clear hB8 hO8 hK8))
    refine ret_row2 (by rfl) HB8.out _ Tryd.underlying25 rfl infoC (by rfl) ?_
    exact ⟨by rw [HS.out]; rfl, HK8.out⟩
set_option maxRecDepth 100000 in
set_option maxHeartbeats 8000000 in
theorem rSay8 (c : CfR) (v : Value) (hv : v.oneCell' = true) (s : ByteArray) (hs : s.size ≤ 1000000) (n : Nat) (E : Int) (h : sayE 8 (bl s) = (n, E)) (w : World) : Calls Tryd.prog 35 #[.agg (enC c v).toArray, .int .i64 8, .string s] w fun e w' => e = .returned (.tuple #[.agg (enC (sayC c 8 n E) v).toArray, .int .i64 E]) ∧ Kp none' w w' := by
  have hb0 : Blk ((w.alloc (.cells (enC c v).toArray 25)).alloc (.cells (enC zC (.slice none 0 0)).toArray 25)) w.heap.size (enC c v) 25 := (Blk.new w (enC c v) 25).alloc _
  have hb1 : Blk ((w.alloc (.cells (enC c v).toArray 25)).alloc (.cells (enC zC (.slice none 0 0)).toArray 25)) (w.heap.size + 1) (enC zC (.slice none 0 0)) 25 := by
    have := Blk.new (w.alloc (.cells (enC c v).toArray 25)) (enC zC (.slice none 0 0)) 25
    rwa [World.size_alloc] at this
  have hk : Kp none' w ((w.alloc (.cells (enC c v).toArray 25)).alloc (.cells (enC zC (.slice none 0 0)).toArray 25)) := ((Kp.refl _ _).alloc _).alloc _
  obtain ⟨w0, hw0⟩ : ∃ W, (w.alloc (.cells #[.int .i64 c.rank, .int .i64 c.back, .int .i64 c.levels, .int .i64 c.queues, .int .i64 c.packets, .int .u64 c.bytes, .int .i64 c.share, .int .u64 c.mtu, .int .u64 c.rate, .int .u64 c.burst, v] 25)).alloc (.cells #[.int .i64 0, .int .i64 0, .int .i64 0, .int .i64 0, .int .i64 0, .int .u64 0, .int .i64 0, .int .u64 0, .int .u64 0, .int .u64 0, .slice none 0 0] 25) = W := ⟨_, rfl⟩
  have hw1 : (w.alloc (.cells (enC c v).toArray 25)).alloc (.cells (enC zC (.slice none 0 0)).toArray 25) = w0 := hw0
  rw [hw1] at hb0 hb1 hk
  have HB0 := Lib.hid hb0; have HB1 := Lib.hid hb1; have HK := Lib.hid hk
  have HV := Lib.hid hv
  clear hb0 hb1 hk hw1 hv
  have hq : numE 18446744073709551615 (bl s) = (n, E) := h
  have hle := numE_le 18446744073709551615 (bl s)
  rw [hq] at hle
  simp only at hle
  have HQ := Lib.hid (fun W => calls_same (rNum s hs 18446744073709551615 n E hq W))
  clear h hq
  unfold enC
  go_enter Tryd.func35, Tryd.ntmps35
  go_wp2_with fail
  clear hw0
  have hrl : w.heap.size ≤ w.heap.size + 1 := Nat.le_succ _
  have hne : w.heap.size ≠ w.heap.size + 1 := by omega
  refine (HQ.out _).mono ?_
  rintro e w2 ⟨rfl, k2⟩
  have HB2 := Lib.hid (HB0.out.kp k2 (fun x => x)); have HR2 := Lib.hid (HB1.out.kp k2 (fun x => x)); have HK2 := Lib.hid (HK.out.trans k2)
  clear k2 HB0 HB1 HK HQ
  obtain ⟨cb, hcb⟩ : ∃ x, w.heap.size = x := ⟨_, rfl⟩
  have HLO : Hid (w.heap.size ≤ cb) := by show _ ≤ _; omega
  have HLO1 : Hid (w.heap.size ≤ cb + 1) := by show _ ≤ _; omega
  rw [hcb] at HB2 HR2 hne ⊢
  clear hcb hrl
  by_cases h0 : E = 0
  · have HS : Hid (sayC c 8 n E = setAt c 8 n) := by show _ = _; unfold sayC; rw [if_pos h0]
    skip
    subst h0
    have y0 := HB2.out.cell 8 rfl
    have y1 := HB2.out.fz 8
    have HB3 : Hid (Blk (w2.setCell ⟨cb, 8, none⟩ (.int .u64 n)) cb (enC (setAt c 8 n) v) 25) := HB2.out.set 8 _
    have HR3 : Hid (Blk (w2.setCell ⟨cb, 8, none⟩ (.int .u64 n)) (cb + 1) (enC zC (.slice none 0 0)) 25) := HR2.out.setNe (fun e => by have e2 : cb + 1 = cb := e; omega) _
    have HK3 : Hid (Kp none' w (w2.setCell ⟨cb, 8, none⟩ (.int .u64 n))) := HK2.out.set (.inr (HLO.out)) _
    go_wp2_with (first
      | (refine wp_get_row rfl 25 (.tmp 3) rfl HB3.out _ rfl Tryd.underlying25 rfl infoC ?_)
      | (refine wp_set_row rfl 25 (.tmp 6) (.tmp 87) rfl HR3.out (enC (setAt c 8 n) v) rfl rfl infoC rfl (oneC _ HV.out) ?_
         intro W8 hB8 hO8 hK8
         have HB8 := Lib.hid hB8; have HK8 := Lib.hid (hK8 _ _ HK3.out (.inr HLO1.out))
         clear hB8 hO8 hK8))
    refine ret_row2 (by rfl) HB8.out _ Tryd.underlying25 rfl infoC (by rfl) ?_
    exact ⟨by rw [HS.out]; rfl, HK8.out⟩
  · have HS : Hid (sayC c 8 n E = c) := by show _ = _; unfold sayC; rw [if_neg h0]
    have hb : (E != 0) = true := by simpa using h0
    clear h0
    go_wp2_with (first
      | (refine wp_get_row rfl 25 (.tmp 3) rfl HB2.out _ rfl Tryd.underlying25 rfl infoC ?_)
      | (refine wp_set_row rfl 25 (.tmp 6) (.tmp 50) rfl HR2.out (enC c v) rfl rfl infoC rfl (oneC _ HV.out) ?_
         intro W8 hB8 hO8 hK8
         have HB8 := Lib.hid hB8; have HK8 := Lib.hid (hK8 _ _ HK2.out (.inr HLO1.out))
         clear hB8 hO8 hK8))
    refine ret_row2 (by rfl) HB8.out _ Tryd.underlying25 rfl infoC (by rfl) ?_
    exact ⟨by rw [HS.out]; rfl, HK8.out⟩
set_option maxRecDepth 100000 in
set_option maxHeartbeats 8000000 in
theorem rSay9 (c : CfR) (v : Value) (hv : v.oneCell' = true) (s : ByteArray) (hs : s.size ≤ 1000000) (n : Nat) (E : Int) (h : sayE 9 (bl s) = (n, E)) (w : World) : Calls Tryd.prog 35 #[.agg (enC c v).toArray, .int .i64 9, .string s] w fun e w' => e = .returned (.tuple #[.agg (enC (sayC c 9 n E) v).toArray, .int .i64 E]) ∧ Kp none' w w' := by
  have hb0 : Blk ((w.alloc (.cells (enC c v).toArray 25)).alloc (.cells (enC zC (.slice none 0 0)).toArray 25)) w.heap.size (enC c v) 25 := (Blk.new w (enC c v) 25).alloc _
  have hb1 : Blk ((w.alloc (.cells (enC c v).toArray 25)).alloc (.cells (enC zC (.slice none 0 0)).toArray 25)) (w.heap.size + 1) (enC zC (.slice none 0 0)) 25 := by
    have := Blk.new (w.alloc (.cells (enC c v).toArray 25)) (enC zC (.slice none 0 0)) 25
    rwa [World.size_alloc] at this
  have hk : Kp none' w ((w.alloc (.cells (enC c v).toArray 25)).alloc (.cells (enC zC (.slice none 0 0)).toArray 25)) := ((Kp.refl _ _).alloc _).alloc _
  obtain ⟨w0, hw0⟩ : ∃ W, (w.alloc (.cells #[.int .i64 c.rank, .int .i64 c.back, .int .i64 c.levels, .int .i64 c.queues, .int .i64 c.packets, .int .u64 c.bytes, .int .i64 c.share, .int .u64 c.mtu, .int .u64 c.rate, .int .u64 c.burst, v] 25)).alloc (.cells #[.int .i64 0, .int .i64 0, .int .i64 0, .int .i64 0, .int .i64 0, .int .u64 0, .int .i64 0, .int .u64 0, .int .u64 0, .int .u64 0, .slice none 0 0] 25) = W := ⟨_, rfl⟩
  have hw1 : (w.alloc (.cells (enC c v).toArray 25)).alloc (.cells (enC zC (.slice none 0 0)).toArray 25) = w0 := hw0
  rw [hw1] at hb0 hb1 hk
  have HB0 := Lib.hid hb0; have HB1 := Lib.hid hb1; have HK := Lib.hid hk
  have HV := Lib.hid hv
  clear hb0 hb1 hk hw1 hv
  have hq : numE 18446744073709551615 (bl s) = (n, E) := h
  have hle := numE_le 18446744073709551615 (bl s)
  rw [hq] at hle
  simp only at hle
  have HQ := Lib.hid (fun W => calls_same (rNum s hs 18446744073709551615 n E hq W))
  clear h hq
  unfold enC
  go_enter Tryd.func35, Tryd.ntmps35
  go_wp2_with fail
  clear hw0
  have hrl : w.heap.size ≤ w.heap.size + 1 := Nat.le_succ _
  have hne : w.heap.size ≠ w.heap.size + 1 := by omega
  refine (HQ.out _).mono ?_
  rintro e w2 ⟨rfl, k2⟩
  have HB2 := Lib.hid (HB0.out.kp k2 (fun x => x)); have HR2 := Lib.hid (HB1.out.kp k2 (fun x => x)); have HK2 := Lib.hid (HK.out.trans k2)
  clear k2 HB0 HB1 HK HQ
  obtain ⟨cb, hcb⟩ : ∃ x, w.heap.size = x := ⟨_, rfl⟩
  have HLO : Hid (w.heap.size ≤ cb) := by show _ ≤ _; omega
  have HLO1 : Hid (w.heap.size ≤ cb + 1) := by show _ ≤ _; omega
  rw [hcb] at HB2 HR2 hne ⊢
  clear hcb hrl
  by_cases h0 : E = 0
  · have HS : Hid (sayC c 9 n E = setAt c 9 n) := by show _ = _; unfold sayC; rw [if_pos h0]
    skip
    subst h0
    have y0 := HB2.out.cell 9 rfl
    have y1 := HB2.out.fz 9
    have HB3 : Hid (Blk (w2.setCell ⟨cb, 9, none⟩ (.int .u64 n)) cb (enC (setAt c 9 n) v) 25) := HB2.out.set 9 _
    have HR3 : Hid (Blk (w2.setCell ⟨cb, 9, none⟩ (.int .u64 n)) (cb + 1) (enC zC (.slice none 0 0)) 25) := HR2.out.setNe (fun e => by have e2 : cb + 1 = cb := e; omega) _
    have HK3 : Hid (Kp none' w (w2.setCell ⟨cb, 9, none⟩ (.int .u64 n))) := HK2.out.set (.inr (HLO.out)) _
    go_wp2_with (first
      | (refine wp_get_row rfl 25 (.tmp 3) rfl HB3.out _ rfl Tryd.underlying25 rfl infoC ?_)
      | (refine wp_set_row rfl 25 (.tmp 6) (.tmp 87) rfl HR3.out (enC (setAt c 9 n) v) rfl rfl infoC rfl (oneC _ HV.out) ?_
         intro W8 hB8 hO8 hK8
         have HB8 := Lib.hid hB8; have HK8 := Lib.hid (hK8 _ _ HK3.out (.inr HLO1.out))
         clear hB8 hO8 hK8))
    refine ret_row2 (by rfl) HB8.out _ Tryd.underlying25 rfl infoC (by rfl) ?_
    exact ⟨by rw [HS.out]; rfl, HK8.out⟩
  · have HS : Hid (sayC c 9 n E = c) := by show _ = _; unfold sayC; rw [if_neg h0]
    have hb : (E != 0) = true := by simpa using h0
    clear h0
    go_wp2_with (first
      | (refine wp_get_row rfl 25 (.tmp 3) rfl HB2.out _ rfl Tryd.underlying25 rfl infoC ?_)
      | (refine wp_set_row rfl 25 (.tmp 6) (.tmp 50) rfl HR2.out (enC c v) rfl rfl infoC rfl (oneC _ HV.out) ?_
         intro W8 hB8 hO8 hK8
         have HB8 := Lib.hid hB8; have HK8 := Lib.hid (hK8 _ _ HK2.out (.inr HLO1.out))
         clear hB8 hO8 hK8))
    refine ret_row2 (by rfl) HB8.out _ Tryd.underlying25 rfl infoC (by rfl) ?_
    exact ⟨by rw [HS.out]; rfl, HK8.out⟩
end Go.Proofs.YtkkgpaabbgdfmaaDoor
