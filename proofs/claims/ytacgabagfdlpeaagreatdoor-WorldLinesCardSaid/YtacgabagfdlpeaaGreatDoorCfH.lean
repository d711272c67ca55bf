/- Walk for layer 24: conf.Put. -/
import Derived.Test.YtacgabagfdlpeaaGreatDoorCfF
import Derived.Test.YtacgabagfdlpeaaGreatDoorCfG
import Derived.Laws.EntriesVeiled
import Derived.Deep.DeepCutAuto
namespace Go.Proofs.YtacgabagfdlpeaaGreatDoor
set_option linter.unusedVariables false
set_option linter.unusedSimpArgs false
open Go Go.RowKit Go.Shelf

theorem own_fullC {w : World} {base : Nat} {e : TypeId} {size : Nat} {v : Value} {n : Nat} {xs : List Value} (h : w.ownsRow base e size v n xs) : ∀ ao m c, v = .slice ao m c → m ≤ c := by
  rcases h.2 with ⟨rfl, h⟩ | ⟨g, cap, cur, rfl, hg, _, h1, h2, _⟩
  · intro ao m c e; cases e; exact Nat.le_refl _
  · intro ao m c e; cases e; exact h1
theorem kr_ex (m : Nat) (h : m ≤ 2) : ∃ s : ByteArray, bl s = krs.getD m [] ∧ s.size ≤ 10 ∧ ∀ w, Calls Tryz.prog 82 #[] w fun e w' => e = .returned (.slice (some ⟨w.heap.size, 0, none⟩) 3 3) ∧ w'.cell? ⟨w.heap.size, m, none⟩ = some (.string s) ∧ Kp none' w w' := by
  have hm : m = 0 ∨ m = 1 ∨ m = 2 := by omega
  rcases hm with rfl | rfl | rfl
  · exact ⟨⟨#[115, 116, 102, 113]⟩, rfl, by decide, fun w => (cNames w).mono fun e w' h => ⟨h.1, h.2.1.cell 0 rfl, h.2.2⟩⟩
  · exact ⟨⟨#[101, 100, 102]⟩, rfl, by decide, fun w => (cNames w).mono fun e w' h => ⟨h.1, h.2.1.cell 1 rfl, h.2.2⟩⟩
  · exact ⟨⟨#[115, 114, 115]⟩, rfl, by decide, fun w => (cNames w).mono fun e w' h => ⟨h.1, h.2.1.cell 2 rfl, h.2.2⟩⟩
theorem kb_ex (m : Nat) (h : m ≤ 2) : ∃ s : ByteArray, bl s = kbs.getD m [] ∧ s.size ≤ 10 ∧ ∀ w, Calls Tryz.prog 83 #[] w fun e w' => e = .returned (.slice (some ⟨w.heap.size, 0, none⟩) 3 3) ∧ w'.cell? ⟨w.heap.size, m, none⟩ = some (.string s) ∧ Kp none' w w' := by
  have hm : m = 0 ∨ m = 1 ∨ m = 2 := by omega
  rcases hm with rfl | rfl | rfl
  · exact ⟨⟨#[104, 101, 97, 112]⟩, rfl, by decide, fun w => (cBacks w).mono fun e w' h => ⟨h.1, h.2.1.cell 0 rfl, h.2.2⟩⟩
  · exact ⟨⟨#[99, 97, 108, 101, 110, 100, 97, 114]⟩, rfl, by decide, fun w => (cBacks w).mono fun e w' h => ⟨h.1, h.2.1.cell 1 rfl, h.2.2⟩⟩
  · exact ⟨⟨#[113, 117, 101, 117, 101, 115]⟩, rfl, by decide, fun w => (cBacks w).mono fun e w' h => ⟨h.1, h.2.1.cell 2 rfl, h.2.2⟩⟩
/-- The text ahead of the n-th line. -/
def preT (c : CfR) (n : Nat) : List UInt8 := (List.range n).flatMap (lnT c)
theorem preT_succ (c : CfR) (n : Nat) : preT c (n + 1) = preT c n ++ lnT c n := by unfold preT; rw [List.range_succ, List.flatMap_append]; simp
theorem preT_hd (c : CfR) : preT c 10 = hdT c := by
  have h0 : preT c 0 = [] := rfl
  rw [preT_succ c 9, preT_succ c 8, preT_succ c 7, preT_succ c 6, preT_succ c 5, preT_succ c 4, preT_succ c 3, preT_succ c 2, preT_succ c 1, preT_succ c 0, h0]
  simp [hdT]
theorem lnT_len (c : CfR) (hc : c.ok) (h : ChkOk c) (i : Nat) (hi : i < 10) : (lnT c i).length ≤ 60 := by
  have b5 := hc.bytes; have b7 := hc.mtu; have b8 := hc.rate; have b9 := hc.burst
  unfold M64 at b5 b7 b8 b9
  obtain ⟨p0, p1, p2, p3, p4, p6, p10⟩ := h
  have hk : ∀ m, (krs.getD m []).length ≤ 10 := fun m => by
    match m with
    | 0 => decide
    | 1 => decide
    | 2 => decide
    | m + 3 => simp [krs]
  have hkb : ∀ m, (kbs.getD m []).length ≤ 10 := fun m => by
    match m with
    | 0 => decide
    | 1 => decide
    | 2 => decide
    | m + 3 => simp [kbs]
  have hn : (nms.getD i []).length ≤ 10 := by
    have : ∀ i, i < 10 → (nms.getD i []).length ≤ 10 := by decide
    exact this i hi
  have hw : (wordN c i).length ≤ 30 := by
    unfold wordN
    split
    · have := hk (c.rank.toNat - 1); omega
    · split
      · have := hkb (c.back.toNat - 1); omega
      · refine putU_len _ ?_
        have : i = 2 ∨ i = 3 ∨ i = 4 ∨ i = 5 ∨ i = 6 ∨ i = 7 ∨ i = 8 ∨ i = 9 := by omega
        rcases this with rfl | rfl | rfl | rfl | rfl | rfl | rfl | rfl <;> simp only [valN] <;> omega
  unfold lnT
  rw [List.length_append, List.length_cons, List.length_append, List.length_singleton]; omega
theorem preT_len (c : CfR) (hc : c.ok) (h : ChkOk c) : ∀ n, n ≤ 10 → (preT c n).length ≤ 60 * n
  | 0, _ => by simp [preT]
  | n + 1, hn => by
    have := preT_len c hc h n (by omega)
    have := lnT_len c hc h n (by omega)
    rw [preT_succ, List.length_append]; omega
theorem flT_len (f : FlR) (h : f.ok) : (flT f).length ≤ 200 := by
  obtain ⟨g0, g1, g2, g3, g4⟩ := h
  have h0 := putU_len f.id (by omega)
  have h1 := putU_len f.cost (by omega)
  have h2 := putU_len f.budget (by omega)
  have h3 := putU_len f.size (by omega)
  have h4 := putU_len f.cap (by omega)
  rw [flT_eq]; simp; omega
theorem fls_len : ∀ (l : List FlR), (∀ f ∈ l, f.ok) → (l.flatMap flT).length ≤ 200 * l.length
  | [], _ => by simp
  | f :: r, h => by
    have h1 := flT_len f (h f (by simp))
    have h2 := fls_len r (fun x hx => h x (by simp [hx]))
    rw [List.flatMap_cons, List.length_append, List.length_cons]; omega

end Go.Proofs.YtacgabagfdlpeaaGreatDoor
