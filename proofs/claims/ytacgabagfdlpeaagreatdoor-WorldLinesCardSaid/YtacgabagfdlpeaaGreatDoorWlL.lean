/- Walks for layer 42: a word and numbers (line), how a shaper stands (stats), a kind's name (name). -/
import Derived.Test.YtacgabagfdlpeaaGreatDoorWlO
import Derived.Test.YtacgabagfdlpeaaGreatDoorCfN
import Derived.Test.YtacgabagfdlpeaaGreatDoorDigJd
import Derived.Test.YtacgabagfdlpeaaGreatDoorOwn
namespace Go.Proofs.YtacgabagfdlpeaaGreatDoor
set_option linter.unusedVariables false
set_option linter.unusedSimpArgs false
open Go Go.RowKit Go.Shelf

def u64w (l : List Nat) : List Value := l.map fun (n : Nat) => .int .u64 (n : Int)
theorem u64w_len (l : List Nat) : (u64w l).length = l.length := by simp [u64w]
theorem u64w_app (a b : List Nat) : u64w (a ++ b) = u64w a ++ u64w b := by simp [u64w]
theorem tU64w : SlT Tryz.prog 36 24 (.int .u64 0) 1 8 := ⟨Tryz.underlying36, by kernel_rfl, rfl, by decide⟩
theorem dPutT (n : Nat) (hn : n < 18446744073709551616) (w : World) : Calls Tryz.prog 12 #[.int .u64 n] w fun e w' => e = .returned (.string (tx (put n))) ∧ Kp none' w w' :=
  (dPut n (by omega) w).mono fun e w' h => by
    obtain ⟨s, rfl, hs, k⟩ := h
    exact ⟨by rw [← hs, tx_bl], k⟩
/-- The words ahead of the k-th number. -/
def wdsK (s : ByteArray) (l : List Nat) : List ByteArray := s :: l.map fun n => tx (put n)
theorem wdsK_snoc (s : ByteArray) (l : List Nat) (k : Nat) (h : k < l.length) : strs (wdsK s (l.take (k + 1))) = strs (wdsK s (l.take k)) ++ [.string (tx (put l[k]))] := by
  unfold wdsK strs; rw [List.take_succ_eq_append_getElem h, List.map_append, ← List.cons_append, List.map_append]; rfl
theorem wdsK_join (s : ByteArray) (l : List Nat) : joinL ((wdsK s l).map bl) = bl s ++ nums l := by
  rw [← join_nums]
  simp [wdsK, List.map_map, Function.comp_def, bl_tx]
set_option maxHeartbeats 4000000 in
theorem wLine (s : ByteArray) (hs : s.size ≤ 10000) (l : List Nat) (hl : ∀ n ∈ l, n < 18446744073709551616) (hn : l.length ≤ 1000) (v : Value) (w : World) (h : Sl w v l.length 1 (u64w l)) :
    Calls Tryz.prog 8 #[.string s, v] w fun e w' => e = .returned (.string (tx (bl s ++ nums l))) ∧ Kp none' w w' := by
  obtain ⟨ao, cap, rfl, hc⟩ := h.is
  have hnl := nums_len l hl
  have hjl : (joinL ((wdsK s l).map bl)).length ≤ 1000000 := by rw [wdsK_join, List.length_append, bl_len]; omega
  have HJ := Lib.hid (fun v w h hcap => dJoin (wdsK s l) v w h hcap hjl (by simp [wdsK]; omega))
  rw [wdsK_join] at HJ
  have HC := Lib.hid hc
  have HLT := Lib.hid hl
  clear h hc hnl hjl
  go_enter Tryz.func8, Tryz.ntmps8
  go_wp2_with fail
  have hk0 := (Kp.refl none' w).alloc (.cells #[.string s] 9)
  have ho0 : (w.alloc (.cells #[.string s] 9)).ownsRow w.heap.size 9 1 (.slice (some ⟨w.heap.size, 0, none⟩) 1 1) 1 (strs (wdsK s (l.take 0))) := own_mk w w.heap.size (Nat.le_refl _) 9 [.string s] (by simp)
  obtain ⟨w0, hw0⟩ : ∃ W, w.alloc (.cells #[.string s] 9) = W := ⟨_, rfl⟩
  rw [hw0] at hk0 ho0 ⊢
  have HO0 := Lib.hid ho0; have HK0 := Lib.hid hk0
  clear hw0 hk0 ho0
  go_loopw [5, 12] (fun v0 i0 wr => ∃ k : Nat, i0 = .int .i64 k ∧ k ≤ l.length ∧ Hid (wr.ownsRow w.heap.size 9 1 v0 (k + 1) (strs (wdsK s (l.take k)))) ∧ Hid (Kp none' w wr)) (fun _ i0 _ => l.length - (intOf i0).toNat)
  case atStart => exact ⟨0, rfl, by omega, HO0.out, HK0.out⟩
  case round =>
    obtain ⟨k, rfl, hk, HO, HK⟩ := hrel
    obtain ⟨xo, xc, rfl⟩ := own_shape HO.out
    have hz := HK.out.size
    by_cases hlt : k < l.length
    · have hki : (k : Int) < l.length := by omega
      obtain ⟨n, hnn⟩ : ∃ n, l[k] = n := ⟨_, rfl⟩
      have hn64 : n < 18446744073709551616 := by rw [← hnn]; exact HLT.out _ (List.getElem_mem hlt)
      obtain ⟨b, o, e, hcell⟩ := HC.out k (.int .u64 n) (by simp [u64w, hlt, hnn])
      subst e
      have hcell := HK.out.cell hcell (fun x => x)
      have HP := Lib.hid (fun W => dPutT n hn64 W)
      have HSN := Lib.hid (wdsK_snoc s l k hlt)
      rw [hnn] at HSN
      clear hnn
      go_wp2_with fail
      refine (HP.out _).mono ?_
      rintro e w1 ⟨rfl, k1⟩
      have HK1 := Lib.hid (HK.out.trans k1)
      have HO1 := Lib.hid (own_kp (S := none') HO.out k1 (fun _ _ x => x))
      have hz1 := k1.size
      clear k1
      go_wp2_with (at_builtin; refine wp_app1 tStr (.tmp 16) (.tmp 19) rfl rfl w.heap.size (HO1.out.alloc _) [.string (tx (put n))] rfl rfl rfl (heap_newC _ _ (by simp)) rfl (by omega) (by omega) (by simp; omega) ?_)
      intro g3 cap3 w3 hown3 hgrow
      have HK3 : Hid (Kp none' w w3) := (HK1.out.alloc _).grown hgrow (fun b e => .inr (own_block HO.out e).1)
      have HO3 : Hid (w3.ownsRow w.heap.size 9 1 (.slice (some ⟨g3, 0, none⟩) (k + 1 + 1) cap3) (k + 1 + 1) (strs (wdsK s (l.take (k + 1))))) := by
        show World.ownsRow _ _ _ _ _ _ _
        rw [HSN.out]; exact hown3
      clear hown3 hgrow
      go_wp2_with fail
      go_roundw
      case rel => exact ⟨k + 1, by go_num, by omega, HO3.out, HK3.out⟩
      case measure => simp [intOf]; omega
    · have hke : k = l.length := by omega
      subst hke
      have hsl := own_sl HO.out
      rw [List.take_length] at hsl
      have hlen : (wdsK s l).length = l.length + 1 := by simp [wdsK]
      rw [← hlen] at hsl
      have hcap : ∀ ao m c, (Value.slice xo (wdsK s l).length xc) = .slice ao m c → m ≤ c := fun ao m c e => by
        have h2 := own_full HO.out (by omega)
        obtain ⟨g, cap', e2, _, h3, _⟩ := h2
        injection e2 with _ _ e3
        injection e with _ e4 e5
        omega
      have HSL := Lib.hid hsl; have HCP := Lib.hid hcap
      rw [hlen] at HSL HCP
      clear hsl hcap
      go_wp2_with fail
      refine (HJ.out _ _ (by rw [hlen]; exact HSL.out) HCP.out).mono ?_
      rintro e w2 ⟨rfl, k2⟩
      have HK2 := Lib.hid (HK.out.trans k2)
      clear k2
      go_wp2
      go_ret
      exact ⟨rfl, HK2.out⟩
def nmB (k : Int) : ByteArray := if k < 0 ∨ 5 < k then ⟨#[]⟩ else tx (kds.getD k.toNat [])
set_option maxHeartbeats 4000000 in
theorem wName (k : Int) (w : World) : Calls Tryz.prog 7 #[.int .i64 k] w fun e w' => e = .returned (.string (nmB k)) ∧ Kp none' w w' := by
  by_cases h0 : k < 0
  · have HN : Hid (nmB k = ⟨#[]⟩) := by show _ = _; unfold nmB; rw [if_pos (.inl h0)]
    go_enter Tryz.func7, Tryz.ntmps7
    go_wp2
    go_ret
    exact ⟨by rw [HN.out]; rfl, (Kp.refl _ _).alloc _⟩
  · by_cases h6 : 5 < k
    · have HN : Hid (nmB k = ⟨#[]⟩) := by show _ = _; unfold nmB; rw [if_pos (.inr h6)]
      have h6' : 6 ≤ k := by omega
      clear h6
      go_enter Tryz.func7, Tryz.ntmps7
      go_wp2
      go_ret
      exact ⟨by rw [HN.out]; rfl, (Kp.refl _ _).alloc _⟩
    · have hc : k = 0 ∨ k = 1 ∨ k = 2 ∨ k = 3 ∨ k = 4 ∨ k = 5 := by omega
      clear h0 h6
      rcases hc with rfl | rfl | rfl | rfl | rfl | rfl
      all_goals
        go_enter Tryz.func7, Tryz.ntmps7
        go_wp2
        go_ret
        exact ⟨rfl, (Kp.refl _ _).alloc _⟩
end Go.Proofs.YtacgabagfdlpeaaGreatDoor
