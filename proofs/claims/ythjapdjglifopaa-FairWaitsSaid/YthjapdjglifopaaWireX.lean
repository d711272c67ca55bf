/- Walks of layer 4: fields of fixed sizes, one behind the other, put. -/
import Derived.Test.YthjapdjglifopaaWireW
import Derived.Test.YthjapdjglifopaaOpen
namespace Go.Proofs.Ythjapdjglifopaa
set_option linter.unusedVariables false
set_option linter.unusedSimpArgs false
open Go.RowKit Go.Shelf

def enF (f : Nat × Nat) : List Value := [.int .i64 f.1, .int .u64 f.2, .string ⟨#[]⟩]
theorem enF_len (f : Nat × Nat) : (enF f).length = 3 := rfl
/-- A field of a fixed size that may be put. -/
def okF (f : Nat × Nat) : Prop := 1 ≤ f.1 ∧ f.1 ≤ 4 ∧ f.2 < 256 ^ widN f.1
def catF (l : List (Nat × Nat)) : List UInt8 := (l.map fun f => be (widN f.1) f.2).flatten
theorem catF_snoc (l : List (Nat × Nat)) (f : Nat × Nat) : catF (l ++ [f]) = catF l ++ be (widN f.1) f.2 := by simp [catF]
theorem widN_le (k : Nat) : widN k ≤ 8 := by unfold widN; split; omega; split; omega; split; omega; split <;> omega
theorem catF_len (l : List (Nat × Nat)) : (catF l).length ≤ 8 * l.length := by
  refine snocT (P := fun l => (catF l).length ≤ 8 * l.length) (by simp [catF]) (fun l c ih => ?_) l
  rw [catF_snoc, List.length_append, be_len, List.length_append]
  have := widN_le c.1
  simp only [List.length_cons, List.length_nil]; omega
theorem okF_lt {f : Nat × Nat} (h : okF f) : f.2 < 18446744073709551616 := by
  obtain ⟨h1, h2, hn⟩ := h
  rcases widN_cases h1 h2 with ⟨_, e⟩ | ⟨_, e⟩ | ⟨_, e⟩ | ⟨_, e⟩ <;> rw [e] at hn <;> simp at hn <;> omega

set_option maxHeartbeats 2000000 in
theorem wPutL (l : List (Nat × Nat)) (hok : ∀ f ∈ l, okF f) (hn : l.length ≤ 100) (v : Value) (w : World) (h : Sl w v l.length 3 (l.flatMap enF)) :
    Calls Try.prog 49 #[v] w fun e w' => e = .returned (.tuple #[.string (tx (catF l)), .int .i64 0]) ∧ Kp none' w w' := by
  obtain ⟨ao, cap, rfl⟩ : ∃ ao cap, v = .slice ao l.length cap := by obtain ⟨ao, cap, rfl, _⟩ := h.is; exact ⟨_, _, rfl⟩
  have HS := Lib.hid h
  have HD := Lib.hid (Bd.new w w.heap.size (Nat.le_refl _))
  have HK := Lib.hid ((Kp.refl none' w).alloc (.cells #[.pointer none, .slice none 0 0] 106))
  clear h
  go_enter Try.func49, Try.ntmps49
  go_wp2_with fail
  go_loopw [10] (fun i wr => ∃ j : Nat, i = .int .i64 j ∧ j ≤ l.length ∧ Hid (Bd w.heap.size w.heap.size (catF (l.take j)) wr ∧ Kp none' w wr)) (fun i _ => l.length - (intOf i).toNat)
  case atStart => exact ⟨0, rfl, by omega, HD.out, HK.out⟩
  case round =>
    obtain ⟨j, rfl, hj, hr⟩ := hrel
    obtain ⟨r1, r2⟩ := hr.out
    have hcl := catF_len (l.take j)
    have hcl2 : (catF (l.take j)).length ≤ 800 := by rw [List.length_take] at hcl; omega
    have hsz := r2.size
    have R1 := Lib.hid r1; have R2 := Lib.hid r2
    clear hcl r1 r2 hr
    by_cases hlt : j < l.length
    · obtain ⟨g, off, cap', e1, hc⟩ := (HS.out.old R2.out).at enF_len (by decide) j hlt
      injection e1 with e1 _ e3
      subst e1 e3
      have hko := hok l[j] (List.getElem_mem hlt)
      obtain ⟨⟨k, n⟩, hkn⟩ : ∃ f, l[j] = f := ⟨_, rfl⟩
      rw [hkn] at hc hko
      have c0 := hc 0 _ rfl
      have c1 := hc 1 _ rfl
      have c2 := hc 2 _ rfl
      simp only [Nat.add_zero] at c0
      have hn64 := okF_lt hko
      have HC := Lib.hid (fun W => wCheck k n hko.1 hko.2.1 hko.2.2 W)
      have HW := Lib.hid (fun (W : World) (b : Bd w.heap.size w.heap.size (catF (l.take j)) W) => wPut1 k n hko.1 hko.2.1 hko.2.2 b (by omega))
      have HT : Hid (catF (l.take (j + 1)) = catF (l.take j) ++ be (widN k) n) := by
        show _ = _
        rw [List.take_succ_eq_append_getElem hlt, catF_snoc, hkn]
      have HB := Lib.hid (Blk.new wr [.int .i64 k, .int .u64 n, .string ⟨#[]⟩] 109)
      have hk1 := (Kp.refl none' wr).alloc (.cells #[.int .i64 k, .int .u64 n, .string ⟨#[]⟩] 109)
      have HD1 := Lib.hid (R1.out.old hk1); have HK1 := Lib.hid (R2.out.trans hk1)
      clear hc hkn hko hk1
      go_wp2_with fail
      refine (HC.out _).mono ?_
      rintro e w1 ⟨rfl, k1⟩
      have HB2 := Lib.hid (HB.out.kp k1 id)
      have HD2 := Lib.hid (HD1.out.old k1); have HK2 := Lib.hid (HK1.out.trans k1)
      have d0 := HB2.out.cell 0 rfl
      have d1 := HB2.out.cell 1 rfl
      have d2 := HB2.out.cell 2 rfl
      clear k1
      go_wp2_with fail
      refine (HW.out _ HD2.out).mono ?_
      rintro e w2 ⟨rfl, b2, k2⟩
      have HD3 := Lib.hid b2
      have HK3 : Hid (Kp none' w w2) := KB.none HK2.out k2 (Nat.le_refl _) (Nat.le_refl _)
      clear b2 k2
      go_wp2_with fail
      go_roundw
      case rel => exact ⟨j + 1, by go_num, by omega, by rw [HT.out]; exact HD3.out, HK3.out⟩
      case measure => simp [intOf]; omega
    · have HD3 : Hid (Bd w.heap.size w.heap.size (catF l) wr) := by
        have := R1.out
        rwa [List.take_of_length_le (by omega)] at this
      go_wp2_with fail
      refine (bAsk HD3.out hsz).mono ?_
      rintro e w1 ⟨rfl, k1⟩
      have HK1 : Hid (Kp none' w w1) := R2.out.then k1 (fun i hi e => by omega)
      clear k1
      go_wp2_with fail
      go_ret2
      exact ⟨rfl, HK1.out⟩
end Go.Proofs.Ythjapdjglifopaa
