/- Layer 38: a histogram by what was added; New and Add. -/
import Derived.Test.YtkhipbpjknfloaaHistZ
import Derived.Test.YtkhipbpjknfloaaSat
import Derived.Maps.OwnOps
import Derived.Maps.Views
import Derived.Carry
namespace Go.Proofs.Ytkhipbpjknfloaa
set_option linter.unusedVariables false
set_option linter.unusedSimpArgs false
open Go.RowKit Go.Maps
/-- What was added: a number, some times. -/
abbrev Ad := Nat × Nat
def cntN (f : Nat) (l : List Ad) (b : Nat) : Nat := l.foldl (fun c e => if bk f e.1 = b then satN c e.2 else c) 0
theorem cnt_snoc (f : Nat) (l : List Ad) (e : Ad) (b : Nat) : cntN f (l ++ [e]) b = if bk f e.1 = b then satN (cntN f l b) e.2 else cntN f l b := by
  unfold cntN; rw [List.foldl_append]; rfl
theorem cnt_lt (f : Nat) (l : List Ad) (b : Nat) : cntN f l b < 18446744073709551616 := by
  unfold cntN
  suffices h : ∀ c, c < 18446744073709551616 → l.foldl (fun c (e : Ad) => if bk f e.1 = b then satN c e.2 else c) c < 18446744073709551616 from h 0 (by omega)
  induction l with
  | nil => exact fun c h => h
  | cons e r ih =>
    intro c hc
    rw [List.foldl_cons]
    refine ih _ ?_
    split
    · exact satN_lt _ _
    · exact hc
theorem satN_zero {a : Nat} (h : a < 18446744073709551616) : satN a 0 = a := by unfold satN; rw [if_pos (by omega)]; omega
/-- Some number of this bucket was added. -/
def inB (f : Nat) (l : List Ad) (b : Nat) : Prop := ∃ e ∈ l, 0 < e.2 ∧ bk f e.1 = b
abbrev DU := DataW Unit
abbrev kI (x : Int) : Lit := .int .i64 x
structure HMem (w : World) (hb f mb n : Nat) (D : DU) (l : List Ad) : Prop where
  top : HTop w hb f mb
  own : w.ownsMap Try.prog 3 (plainElem Try.prog 35) mb n D
  hs : ∀ x : Int, Maps.has D (kI x) = true ↔ ∃ b : Nat, x = b ∧ inB f l b
  at_ : ∀ b : Nat, b ≤ 20000 → D.atKey (kI b) (.lit (.int .u64 0)) = .lit (.int .u64 (cntN f l b))
  few : n ≤ l.length
  ne : hb ≠ mb
theorem own_map_kp {S : Nat → Prop} {w w' : World} {P : Program} {k : TypeId} {R : Value → Option (DU × List MemPlace)} {b n : Nat} {D : DU} (h : w.ownsMap P k R b n D) (k' : Kp S w w') (hs : ¬ S b) : w'.ownsMap P k R b n D := by
  obtain ⟨es, clock, hb, F, hs', hD⟩ := h
  exact ⟨es, clock, (k'.block b (Array.getElem?_eq_some_iff.1 hb).1 hs).trans hb, F, hs', hD⟩
theorem HMem.kp {S : Nat → Prop} {w w' : World} {hb f mb n : Nat} {D : DU} {l : List Ad} (h : HMem w hb f mb n D l) (k : Kp S w w') (h1 : ¬ S hb) (h2 : ¬ S mb) : HMem w' hb f mb n D l :=
  ⟨h.top.kp k h1, own_map_kp h.own k h2, h.hs, h.at_, h.few, h.ne⟩
theorem HMem.old {w w' : World} {hb f mb n : Nat} {D : DU} {l : List Ad} (h : HMem w hb f mb n D l) (k : Kp none' w w') : HMem w' hb f mb n D l := h.kp k (fun x => x) (fun x => x)
/-- A histogram at hb, its blocks beyond B0, to which l was added. -/
def Hs (w : World) (B0 hb f : Nat) (l : List Ad) : Prop := ∃ mb n D, HMem w hb f mb n D l ∧ B0 ≤ hb ∧ B0 ≤ mb
theorem Hs.kp {S : Nat → Prop} {w w' : World} {B0 hb f : Nat} {l : List Ad} (h : Hs w B0 hb f l) (k : Kp S w w') (hS : ∀ b, B0 ≤ b → ¬ S b) : Hs w' B0 hb f l := by
  obtain ⟨mb, n, D, hm, h1, h2⟩ := h
  exact ⟨mb, n, D, hm.kp k (hS _ h1) (hS _ h2), h1, h2⟩
theorem Hs.top {w : World} {B0 hb f : Nat} {l : List Ad} (h : Hs w B0 hb f l) : ∃ mb, HTop w hb f mb := by
  obtain ⟨mb, _, _, hm, _⟩ := h
  exact ⟨mb, hm.top⟩

theorem hNewBad (f : Int) (h : f < 0 ∨ 8 < f) (w : World) : Calls Try.prog 16 #[.int .i64 f] w fun e w' => e = .returned (.tuple #[.pointer none, .int .i64 6]) ∧ w = w' := by
  have h1 : f < 0 ∨ ¬ f < 0 ∧ 8 < f := by omega
  go_enter Try.func16, Try.ntmps16
  rcases h1 with h1 | ⟨h1, h2⟩
  · go_wp2
    go_ret2
    exact ⟨rfl, rfl⟩
  · go_wp2
    go_ret2
    exact ⟨rfl, rfl⟩
set_option maxHeartbeats 1000000 in
theorem hNew (f : Nat) (hf : f ≤ 8) (w : World) : Calls Try.prog 16 #[.int .i64 f] w fun e w' => ∃ hb, e = .returned (.tuple #[.pointer (some ⟨hb, 0, none⟩), .int .i64 0]) ∧ Hs w' w.heap.size hb f [] ∧ Kp none' w w' := by
  have hmm := @run_makeMap Try.prog
  have d1 : ¬ (f : Int) < 0 := by omega
  have d2 : ¬ (8 : Int) < f := by omega
  have HI : Hid (HMem ((w.alloc (.map #[] 0)).alloc (.cells #[.int .i64 f, .map (some w.heap.size)] 99)) (w.heap.size + 1) f w.heap.size 0 (.map []) []) := by
    refine ⟨⟨?_⟩, ?_, fun x => ⟨fun h => (by cases h), fun ⟨b, _, e, he, _⟩ => (by cases he)⟩, fun b _ => rfl, Nat.le_refl _, by omega⟩
    · have := Blk.new (w.alloc (.map #[] 0)) [.int .i64 f, .map (some w.heap.size)] 99
      rw [World.size_alloc] at this
      exact this
    · exact own_map_kp (World.ownsMap_made w _ _ _) ((Kp.refl none' _).alloc _) (fun x => x)
  have HK : Hid (Kp none' w ((w.alloc (.map #[] 0)).alloc (.cells #[.int .i64 f, .map (some w.heap.size)] 99))) := ((Kp.refl _ _).alloc _).alloc _
  go_enter Try.func16, Try.ntmps16
  go_wp2
  go_ret2
  exact ⟨w.heap.size + 1, rfl, ⟨_, _, _, HI.out, by omega, by omega⟩, HK.out⟩
theorem keyWf {b : Nat} (h : b ≤ 20000) : (Lit.int .i64 (b : Int)).wf = true := by simp [Lit.wf, IntKind.min, IntKind.max, IntKind.signed, IntKind.bits]; omega
theorem valWf {b : Nat} (h : b < 18446744073709551616) : (Lit.int .u64 (b : Int)).wf = true := by simp [Lit.wf, IntKind.min, IntKind.max, IntKind.signed, IntKind.bits]; omega
theorem keyLit (x : Int) : WideAt.IsKeyLit (kI x) := by simp [WideAt.IsKeyLit, kI]
/-- Behind an addition. -/
theorem HMem.add {w w' : World} {hb f mb n : Nat} {D : DU} {l : List Ad} (h : HMem w hb f mb n D l) (e : Ad) (he : 0 < e.2) (ht : HTop w' hb f mb)
    (ho : w'.ownsMap Try.prog 3 (plainElem Try.prog 35) mb (n + 1) (D.put (kI (bk f e.1 : Nat)) (.lit (.int .u64 (satN (cntN f l (bk f e.1)) e.2 : Nat))))) : HMem w' hb f mb (n + 1) (D.put (kI (bk f e.1 : Nat)) (.lit (.int .u64 (satN (cntN f l (bk f e.1)) e.2 : Nat)))) (l ++ [e]) := by
  have him : IsMap D := by obtain ⟨es, _, _, _, _, hD⟩ := h.own; exact ⟨_, hD⟩
  refine ⟨ht, ho, fun x => ?_, fun b hbb => ?_, by have := h.few; simp; omega, h.ne⟩
  · by_cases hx : x = (bk f e.1 : Nat)
    · subst hx
      rw [has_put_same him (keyLit _)]
      exact ⟨fun _ => ⟨_, rfl, e, by simp, he, rfl⟩, fun _ => rfl⟩
    · rw [has_put_other (fun hc => hx (by simpa [kI] using hc)), h.hs]
      constructor
      · rintro ⟨b, hb, e', he', h1, h2⟩
        exact ⟨b, hb, e', List.mem_append_left _ he', h1, h2⟩
      · rintro ⟨b, hb, e', he', h1, h2⟩
        rcases List.mem_append.1 he' with h3 | h3
        · exact ⟨b, hb, e', h3, h1, h2⟩
        · simp only [List.mem_singleton] at h3
          subst h3
          exact absurd (by rw [hb, h2]) hx
  · rw [cnt_snoc]
    by_cases hx : bk f e.1 = b
    · subst hx
      rw [if_pos rfl, atKey_put_same him (keyLit _)]
    · rw [if_neg hx, atKey_put_other (fun hc => hx (by simp [kI] at hc; omega)), h.at_ b hbb]
theorem HMem.addNone {w : World} {hb f mb n : Nat} {D : DU} {l : List Ad} (h : HMem w hb f mb n D l) (N : Nat) : HMem w hb f mb n D (l ++ [(N, 0)]) := by
  refine ⟨h.top, h.own, fun x => ?_, fun b hbb => ?_, by have := h.few; simp; omega, h.ne⟩
  · rw [h.hs]
    constructor
    · rintro ⟨b, hb, e', he', h1, h2⟩
      exact ⟨b, hb, e', List.mem_append_left _ he', h1, h2⟩
    · rintro ⟨b, hb, e', he', h1, h2⟩
      rcases List.mem_append.1 he' with h3 | h3
      · exact ⟨b, hb, e', h3, h1, h2⟩
      · simp only [List.mem_singleton] at h3
        subst h3
        exact absurd h1 (by simp)
  · rw [cnt_snoc, h.at_ b hbb]
    split
    · rw [satN_zero (cnt_lt _ _ _)]
    · rfl
theorem neqSome (bm : Nat) (w : World) : (binOp .neq 97 (.map (some bm)) (.map none)).run Try.prog w = .ok (.bool true) w := by kernel_rfl
theorem bk_bnd {f N : Nat} (hf : f ≤ 8) (hN : N < 18446744073709551616) : bk f N ≤ 20000 := Nat.le_trans (bk_mono f (show N ≤ 18446744073709551615 by omega)) (top_le hf)
set_option maxRecDepth 100000 in
set_option maxHeartbeats 4000000 in
theorem hAddM (hb f mb n N t : Nat) (D : DU) (l : List Ad) (hf : f ≤ 8) (hN : N < 18446744073709551616) (ht : t < 18446744073709551616) (hl : l.length ≤ 1000000) (w : World) (hm : HMem w hb f mb n D l) :
    Calls Try.prog 30 #[.pointer (some ⟨hb, 0, none⟩), .int .u64 N, .int .u64 t] w fun e w' => e = .returned (.tuple #[]) ∧ (∃ n' D', HMem w' hb f mb n' D' (l ++ [(N, t)])) ∧ Kp (fun b => b = mb) w w' := by
  have c1 := hm.top.top.cell 1 rfl
  have hnq := neqSome mb
  by_cases h0 : t = 0
  · subst h0
    have HM := Lib.hid (hm.addNone N)
    clear hm
    go_enter Try.func30, Try.ntmps30
    go_wp2
    go_end0
    exact ⟨rfl, ⟨n, D, HM.out⟩, Kp.refl _ _⟩
  · have hti : (0 : Int) < t := by omega
    have hbn := bk_bnd hf hN
    have HB := Lib.hid (fun W (k : Kp none' w W) => hBucket hb f mb N hf hN W (hm.top.kp k (fun x => x)))
    have HM := Lib.hid hm
    have hkey : keyOf Try.prog 3 (.int .i64 (bk f N : Nat)) = some (kI (bk f N : Nat)) := keyOf_int_mk Try.underlying3 (keyWf hbn)
    have hat := hm.at_ _ hbn
    have HL : Hid (∀ W, Kp none' w W → (Instr.lookup 97 (.map (some mb)) (.int .i64 (bk f N : Nat)) false).run Try.prog W = .ok (.int .u64 (cntN f l (bk f N) : Nat)) W) := fun W k => by
      obtain ⟨c, h1, h2, _⟩ := (own_map_kp hm.own k (fun x => x)).lookup_int (int_keyed Try.underlying3) Try.underlying97 Try.underlying35 (Try.zeroValue35 W) hkey
      rw [hat] at h2
      injection h2 with h2
      injection h2 with _ h2
      rw [h1, h2]
    have HS := Lib.hid (fun W => calls_same (sAdd (cntN f l (bk f N)) t (cnt_lt _ _ _) ht W))
    have HKY := Lib.hid hkey
    have hcl := cnt_lt f l (bk f N)
    have hfew := hm.few
    have hADD := Lib.hid (fun w' => hm.add (w' := w') (N, t) (by show 0 < t; omega))
    clear hm hat hkey
    go_enter Try.func30, Try.ntmps30
    go_wp2_with (go_at_call 20; refine (HB.out _ (Kp.refl _ _)).mono ?_; rintro e w1 ⟨rfl, k1⟩; have K1 := Lib.hid k1; have d1 := k1.cell c1 (fun x => x); clear k1)
    obtain ⟨x, hx⟩ : ∃ x, bk f N = x := ⟨_, rfl⟩
    obtain ⟨c, hc⟩ : ∃ c, cntN f l x = c := ⟨_, rfl⟩
    rw [hx] at HL HS HKY hbn hADD ⊢
    rw [hc] at HL HS hADD
    refine wp_region_kept2 [] [0, 1, 2, 3, 4, 5, 6, 7, 8, 9, 10, 11, 12] 13 (by kernel_rfl) (by kernel_rfl) (fun c a d u w h => by cases d <;> exact h) ?_
    simp only [pick, List.getElem?_cons_succ, List.getElem?_cons_zero, List.drop_succ_cons, List.drop_zero]
    show wpKL _ _ _ _ _ _
    repeat (first
      | (refine wpKL_op (by exact rfl) (by as_aux_lemma => intro W hK; have e1 := hK.cell d1 (fun x => x); have e2 := HL.out W (K1.out.trans hK); go_simp; exact rfl) ?_; simp only [Act.put, List.setIfInBounds_toArray, List.set_cons_succ, List.set_cons_zero])
      | (refine wpKL_off (by exact rfl) ?_; simp only [Act.put, List.setIfInBounds_toArray, List.set_cons_succ, List.set_cons_zero])
      | (refine wpKL_call (by exact rfl) (by as_aux_lemma => intro W; go_simp; exact ⟨rfl, rfl⟩) (by intro W hK; with_reducible first | exact HS.out W) ?_; simp only [Act.put, List.setIfInBounds_toArray, List.set_cons_succ, List.set_cons_zero]))
    show ∀ W, _ → wpList _ _ _ _ _ _
    intro W2 hK2
    have K2 := Lib.hid (K1.out.trans hK2)
    clear hK2
    refine wpList_mapUpdate_own _ rfl _ _ _ 97 rfl 3 35 (int_keyed Try.underlying3) Try.underlying97 (plainElem Try.prog 35) mb n D rfl (own_map_kp HM.out.own K2.out (fun x => x)) (by unfold maxLen; omega) _ _ _ rfl rfl HKY.out (.lit (.int .u64 (satN c t : Nat))) [] (plainElem_int Try.underlying35 (valWf (satN_lt _ _))) ?_
    intro w3 hown hgrow
    have HF : Hid (HMem w3 hb f mb (n + 1) (D.put (kI (x : Nat)) (.lit (.int .u64 (satN c t : Nat)))) (l ++ [(N, t)])) := by
      have h1 := (HM.out.top.kp K2.out (fun x => x))
      have h2 : HTop w3 hb f mb := ⟨h1.top.grown hgrow (fun e => HM.out.ne (by simpa using e))⟩
      have h3 := hADD.out w3 h2
      exact h3 hown
    have HK : Hid (Kp (fun b => b = mb) w w3) := (K2.out.mono (T := fun b => b = mb) fun _ _ x => x.elim).grown hgrow (fun k e => .inl (by simp at e; exact e.symm))
    clear hown hgrow HM hADD HL
    go_wp2
    go_end0
    exact ⟨rfl, ⟨n + 1, _, HF.out⟩, HK.out⟩
theorem hAdd (B0 hb f N t : Nat) (l : List Ad) (hf : f ≤ 8) (hN : N < 18446744073709551616) (ht : t < 18446744073709551616) (hl : l.length ≤ 1000000) (w : World) (h : Hs w B0 hb f l) :
    Calls Try.prog 30 #[.pointer (some ⟨hb, 0, none⟩), .int .u64 N, .int .u64 t] w fun e w' => e = .returned (.tuple #[]) ∧ Hs w' B0 hb f (l ++ [(N, t)]) ∧ Kp (fun b => B0 ≤ b) w w' := by
  obtain ⟨mb, n, D, hm, hB1, hB2⟩ := h
  refine (hAddM hb f mb n N t D l hf hN ht hl w hm).mono ?_
  rintro e w' ⟨he, ⟨n', D', hm'⟩, hk⟩
  exact ⟨he, ⟨mb, n', D', hm', hB1, hB2⟩, hk.mono fun b _ h => by subst h; exact hB2⟩
end Go.Proofs.Ytkhipbpjknfloaa
