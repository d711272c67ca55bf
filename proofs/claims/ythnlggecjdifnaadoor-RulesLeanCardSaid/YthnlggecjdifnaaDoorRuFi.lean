/- Which rule is found; its flow; how many there are. -/
import Derived.Test.YthnlggecjdifnaaDoorRuHo
import Derived.Test.YthnlggecjdifnaaDoorTz
namespace Go.Proofs.YthnlggecjdifnaaDoor
set_option linter.unusedVariables false
set_option linter.unusedSimpArgs false
open Go.RowKit

theorem tLen (w : World) (tb : Nat) (l : List RuN) (H : RtM w tb l) : Calls Tryd.prog 12 #[.pointer (some ⟨tb, 0, none⟩)] w fun e w' => e = .returned (.int .i64 l.length) ∧ w = w' := by
  obtain ⟨base, base', sb, db, sn, dn, S, D, zs, pv, fv, h1, h2, h3, h4, h5, h6, hz9, h7, h8⟩ := H.is
  obtain ⟨ao, cap, rfl, _⟩ := h8.is
  have c3 := h1.cell 3 rfl
  clear h1 h2 h3 h4 h5 h6 h7 h8 H
  go_enter Tryd.func12, Tryd.ntmps12
  go_wp2
  go_ret
  exact ⟨rfl, rfl⟩
theorem tLenNil (w : World) : Calls Tryd.prog 12 #[.pointer none] w fun e w' => e = .returned (.int .i64 0) ∧ w = w' := by
  go_enter Tryd.func12, Tryd.ntmps12
  go_wp2
  go_ret
  exact ⟨rfl, rfl⟩
def atN (o : Option Nat) : Nat := match o with | none => 0 | some i => i
def isN (o : Option Nat) : Bool := match o with | none => false | some _ => true
set_option maxRecDepth 100000 in
set_option maxHeartbeats 8000000 in
theorem tFindR (w : World) (tb : Nat) (l : List RuN) (hok : ∀ r ∈ l, r.Ok) (hc : chkN l = 0) (H : RtM w tb l) (hT : Tab w) (h : HdR) (hh : h.Ok) :
    Calls Tryd.prog 9 #[.pointer (some ⟨tb, 0, none⟩), .agg #[.int .u8 h.ds, .int .u16 h.id, .int .u8 h.ttl, .int .u32 h.s, .int .u32 h.d, .int .u16 h.sp, .int .u16 h.p]] w fun e w' => e = .returned (.tuple #[.int .i64 (atN (findN l h.n) : Nat), .bool (isN (findN l h.n))]) ∧ Kp none' w w' := by
  have k0 := (Kp.refl none' w).alloc (.cells #[.int .u8 h.ds, .int .u16 h.id, .int .u8 h.ttl, .int .u32 h.s, .int .u32 h.d, .int .u16 h.sp, .int .u16 h.p] 26)
  have HL := Lib.hid (tLen _ tb l (H.old k0))
  have HH := Lib.hid (tHold _ tb l hok hc (H.old k0) h hh)
  have HT := Lib.hid hT
  have HK0 := Lib.hid k0
  have hz := (chk_zero.1 hc).1
  obtain ⟨R, hR⟩ : ∃ R, bitsOf (holdsAt l h.n) l.length = R := ⟨_, rfl⟩
  have hRl : R < 18446744073709551616 := by rw [← hR]; exact Nat.lt_of_lt_of_le (bitsOf_lt _ _) (show 2 ^ l.length ≤ 2 ^ 64 from Nat.pow_le_pow_right (by decide) hz)
  rw [hR] at HH
  by_cases hl0 : l.length = 0
  · have hf : findN l h.n = none := findN_none.2 (fun j hj => by omega)
    rw [hf]
    rw [hl0] at HL
    clear H hT k0 hR
    go_enter Tryd.func9, Tryd.ntmps9
    go_wp2_with (go_at_call 12; refine HL.out.mono ?_; rintro e w1 ⟨rfl, rfl⟩)
    go_ret2
    exact ⟨rfl, HK0.out⟩
  · by_cases hR0 : R = 0
    · have hf : findN l h.n = none := first_zero (by rw [hR, hR0])
      rw [hf]
      rw [hR0] at HH
      have hl1 : ¬ (l.length : Int) = 0 := by omega
      clear H hT k0 hR hRl hR0 hl0
      go_enter Tryd.func9, Tryd.ntmps9
      go_wp2_with (first
        | (go_at_call 12; refine HL.out.mono ?_; rintro e w1 ⟨rfl, rfl⟩)
        | (go_at_call 21; refine HH.out.mono ?_; rintro e w2 ⟨rfl, hk2⟩; have HK2 := Lib.hid hk2; clear hk2))
      go_ret2
      exact ⟨rfl, HK0.out.trans HK2.out⟩
    · have hf : findN l h.n = some (Lib.ctz 64 R) := by rw [← hR]; exact first_ctz hz (by rw [hR]; exact hR0)
      rw [hf]
      have hTZ := Lib.hid (fun W (k : Kp none' w W) => tz R hRl W (HT.out.kp k (fun x => x)))
      have hl1 : ¬ (l.length : Int) = 0 := by omega
      have hR1 : ¬ (R : Int) = 0 := by omega
      obtain ⟨c, hcz⟩ : ∃ c, Lib.ctz 64 R = c := ⟨_, rfl⟩
      rw [hcz] at hTZ ⊢
      clear H hT k0 hR hRl hR0 hl0 hcz
      go_enter Tryd.func9, Tryd.ntmps9
      go_wp2_with (first
        | (go_at_call 12; refine HL.out.mono ?_; rintro e w1 ⟨rfl, rfl⟩)
        | (go_at_call 21; refine HH.out.mono ?_; rintro e w2 ⟨rfl, hk2⟩; have HK2 := Lib.hid (HK0.out.trans hk2); clear hk2)
        | (go_at_call 22; refine (hTZ.out _ HK2.out).mono ?_; rintro e w3 ⟨rfl, rfl⟩))
      go_ret2
      exact ⟨rfl, HK2.out⟩
def flN (o : Option Nat) : Nat := match o with | none => 0 | some x => x
set_option maxRecDepth 100000 in
set_option maxHeartbeats 8000000 in
theorem tFlow (w : World) (tb : Nat) (l : List RuN) (hok : ∀ r ∈ l, r.Ok) (hc : chkN l = 0) (H : RtM w tb l) (hT : Tab w) (h : HdR) (hh : h.Ok) :
    Calls Tryd.prog 11 #[.pointer (some ⟨tb, 0, none⟩), .agg #[.int .u8 h.ds, .int .u16 h.id, .int .u8 h.ttl, .int .u32 h.s, .int .u32 h.d, .int .u16 h.sp, .int .u16 h.p]] w fun e w' => e = .returned (.tuple #[.int .u32 (atN (flowN l h.n) : Nat), .bool (isN (flowN l h.n))]) ∧ Kp none' w w' := by
  have k0 := (Kp.refl none' w).alloc (.cells #[.int .u8 h.ds, .int .u16 h.id, .int .u8 h.ttl, .int .u32 h.s, .int .u32 h.d, .int .u16 h.sp, .int .u16 h.p] 26)
  have HF := Lib.hid (tFindR _ tb l hok hc (H.old k0) (hT.kp k0 (fun x => x)) h hh)
  have HH := Lib.hid (H.old k0)
  have HK0 := Lib.hid k0
  rw [flow_find]
  cases hf : findN l h.n with
  | none =>
    rw [hf] at HF
    simp only [atN, isN] at HF
    clear H hT k0 hf
    go_enter Tryd.func11, Tryd.ntmps11
    go_wp2_with (go_at_call 9; refine HF.out.mono ?_; rintro e w1 ⟨rfl, hk1⟩; have HK1 := Lib.hid (HK0.out.trans hk1); clear hk1)
    go_ret2
    exact ⟨rfl, HK1.out⟩
  | some i =>
    rw [hf] at HF
    simp only [atN, isN] at HF
    obtain ⟨hi, _, _⟩ := findN_some.1 hf
    have hii : (i : Int) < l.length := by omega
    simp only [Option.map_some]
    have hle : l.getD i default = l[i] := getD_at _ hi
    obtain ⟨x, hx⟩ : ∃ x, (l.getD i default).fl = x := ⟨_, rfl⟩
    rw [hx]
    have HX : Hid (l[i].fl = x) := by show _ = _; rw [← hle]; exact hx
    clear H hT k0 hf hle hx
    go_enter Tryd.func11, Tryd.ntmps11
    go_wp2_with (go_at_call 9; refine HF.out.mono ?_; rintro e w1 ⟨rfl, hk1⟩; have HK1 := Lib.hid (HK0.out.trans hk1); have HH1 := Lib.hid (HH.out.old hk1); clear hk1
                 obtain ⟨base, base', sb, db, sn, dn, S, D, zs, pv, fv, h1, h2, h3, h4, h5, h6, hz9, h7, h8⟩ := HH1.out.is
                 obtain ⟨g, off, cap, rfl, hcl⟩ := h8.at (enc := fun r => [flV r]) (fun _ => rfl) (by decide) i hi
                 have c3 := h1.cell 3 rfl
                 have c4 : w1.cell? ⟨g, off + i * 1, none⟩ = some (.int .u32 l[i].fl) := hcl 0 _ rfl
                 rw [Nat.mul_one, HX.out] at c4
                 clear h1 h2 h3 h4 h5 h6 h7 h8 hcl hz9)
    go_ret2
    exact ⟨rfl, HK1.out⟩
end Go.Proofs.YthnlggecjdifnaaDoor
