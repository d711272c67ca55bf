/- Walks of layer 39: the records with which a text begins. -/
import Derived.Test.YthjapdjglifopaaTrX
namespace Go.Proofs.Ythjapdjglifopaa
set_option linter.unusedVariables false
set_option linter.unusedSimpArgs false
open Go.RowKit Go.Shelf

theorem oneE_good {s : List UInt8} (h : goodB s = true) : oneE s = (parseR s, true) := by
  obtain ⟨h1, h2⟩ := good_iff.1 h
  unfold oneE; rw [if_pos h1, h2]
theorem oneE_bad {s : List UInt8} (h : goodB s = false) : ∃ r, oneE s = (r, false) := by
  unfold oneE
  by_cases h1 : sealL (s.take 26) = s
  · rw [if_pos h1]
    refine ⟨parseR s, ?_⟩
    cases h2 : rightB (parseR s) with
    | false => rfl
    | true => exact absurd ⟨h1, h2⟩ (good_not.1 h)
  · rw [if_neg h1]; exact ⟨_, rfl⟩
theorem tRec : SlT Try.prog 50 53 (.agg #[.int .u64 0, .int .i64 0, .int .u32 0, .int .u32 0, .int .u64 0, .int .i64 0]) 6 40 := ⟨Try.underlying50, by kernel_rfl, rfl, by decide⟩
theorem piece_bl (s : ByteArray) (j : Nat) (h : 30 * (j + 1) ≤ s.size) : bl (s.extract (30 * j) (30 * j + 30)) = piece (bl s) j := by
  rw [bl_cut]; unfold piece; congr 1; omega
/-- What a reading has come to. -/
structure RdTo (s : List UInt8) (B : Nat) (w wr : World) (v : Value) (l : List Rec) : Prop where
  rt : RT s l
  own : wr.ownsRow B 53 6 v l.length (l.flatMap enR)
  kp : Kp none' w wr

set_option maxHeartbeats 4000000 in
theorem tRead (s : ByteArray) (hs : s.size ≤ 900000) (w : World) : Calls Try.prog 23 #[.string s] w fun e w' => ∃ v l, e = .returned (.tuple #[v, .int .i64 ((30 * l.length : Nat) : Int)]) ∧ Reads (bl s) l ∧ w'.ownsRow w.heap.size 53 6 v l.length (l.flatMap enR) ∧ Kp none' w w' := by
  go_enter Try.func23, Try.ntmps23
  go_wp2
  go_loopw [4, 5] (fun v a wr => ∃ (l : List Rec) (d : Nat), a = .int .i64 d ∧ d ≤ s.size ∧ Hid (d = 30 * l.length) ∧ Hid (RdTo (bl s) w.heap.size w wr v l)) (fun _ a _ => s.size - (intOf a).toNat)
  case atStart => exact ⟨[], 0, rfl, by omega, rfl, RT.nil _, World.ownsRow_nil _ _ _ _, Kp.refl _ _⟩
  case round =>
    obtain ⟨l, d, rfl, hd, hl, hr⟩ := hrel
    obtain ⟨ro, rcap, rfl⟩ := own_shape hr.out.own
    have hsz := hr.out.kp.size
    have hlen := hr.out.rt.len
    have hld := hl.out
    by_cases hlt : d + 30 ≤ s.size
    · have hp : bl (s.extract d (d + 30)) = piece (bl s) l.length := by rw [hld]; exact piece_bl s _ (by omega)
      have hes : (s.extract d (d + 30)).size = 30 := by rw [← bl_len, hp, piece, List.length_take, List.length_drop, bl_len]; omega
      have hO := fun W => tOne (s.extract d (d + 30)) hes W
      rw [hp] at hO
      have hl2 : l.length ≤ 30000 := by omega
      cases hg : goodB (piece (bl s) l.length) with
      | true =>
        rw [oneE_good hg] at hO
        have HT : Hid (RT (bl s) (l ++ [parseR (piece (bl s) l.length)])) := hr.out.rt.snoc (by rw [bl_len]; omega) hg
        have hplt := parse_lt (piece (bl s) l.length)
        obtain ⟨⟨t, k, f, i, n, c⟩, hpr⟩ : ∃ r, parseR (piece (bl s) l.length) = r := ⟨_, rfl⟩
        rw [hpr] at hO HT
        simp only [enR] at hO
        have HO := Lib.hid hO
        clear hO hpr hg hplt hp hes hlen hld
        go_wp2_with fail
        refine (HO.out _).mono ?_
        rintro e w1 ⟨rfl, k1⟩
        have H1 := Lib.hid (own_kp (S := none') hr.out.own k1 (fun _ _ h => h))
        have K1 := Lib.hid (hr.out.kp.trans k1)
        have hsz1 := K1.out.size
        clear k1
        go_wp2_with (at_builtin; refine wp_app1 tRec (.tmp 24) (.tmp 26) rfl rfl w.heap.size ((H1.out.alloc _).alloc _) (enR ⟨t, k, f, i, n, c⟩) rfl rfl rfl (heap_at _ _ _ (by simp)) rfl (by omega) (by omega) (by simp; omega) ?_)
        intro g2 cap2 w2 hown hgrow
        have HF : Hid (RdTo (bl s) w.heap.size w w2 (.slice (some ⟨g2, 0, none⟩) (l.length + 1) cap2) (l ++ [⟨t, k, f, i, n, c⟩])) :=
          ⟨HT.out, by rw [List.length_append, List.flatMap_append]; simpa using hown, ((K1.out.alloc _).alloc _).grown hgrow (fun b hb => .inr (by have := (own_block H1.out hb); omega))⟩
        have HL : Hid (d + 30 = 30 * (l ++ [(⟨t, k, f, i, n, c⟩ : Rec)]).length) := by show _ = _; rw [List.length_append, hl.out]; simp; omega
        clear hown hgrow
        go_wp2_with fail
        go_roundw
        case rel => exact ⟨_, d + 30, by go_num, by omega, HL.out, HF.out⟩
        case measure => simp [intOf]; omega
      | false =>
        obtain ⟨⟨t, k, f, i, n, c⟩, hb⟩ := oneE_bad hg
        rw [hb] at hO
        simp only [enR] at hO
        have HO := Lib.hid hO
        have HR : Hid (Reads (bl s) l ∧ (30 * l.length : Nat) = d) := ⟨⟨hr.out.rt, .inr hg⟩, hld.symm⟩
        clear hO hb hg hp hes hlen hld
        go_wp2_with fail
        refine (HO.out _).mono ?_
        rintro e w1 ⟨rfl, k1⟩
        have H1 := Lib.hid (own_kp (S := none') hr.out.own k1 (fun _ _ h => h))
        have K1 := Lib.hid (hr.out.kp.trans k1)
        clear k1
        go_wp2_with fail
        go_ret2
        exact ⟨_, l, by rw [HR.out.2]; rfl, HR.out.1, H1.out.alloc _, K1.out.alloc _⟩
    · have HR : Hid (Reads (bl s) l ∧ (30 * l.length : Nat) = d) := ⟨⟨hr.out.rt, .inl (by rw [bl_len]; omega)⟩, hld.symm⟩
      clear hlen hld
      go_wp2_with fail
      go_ret2
      exact ⟨_, l, by rw [HR.out.2]; rfl, HR.out.1, hr.out.own, hr.out.kp⟩
end Go.Proofs.Ythjapdjglifopaa
