/- Which rules are dead. -/
import Derived.Test.YthnlggecjdifnaaDoorRuFi
namespace Go.Proofs.YthnlggecjdifnaaDoor
set_option linter.unusedVariables false
set_option linter.unusedSimpArgs false
open Go.RowKit

def agR (r : RuN) : Value := .agg #[.int .u32 r.s.1, .int .i64 r.s.2, .int .u32 r.d.1, .int .i64 r.d.2, .int .u16 r.lo, .int .u16 r.hi, .int .u32 r.fl]
set_option maxRecDepth 100000 in
set_option maxHeartbeats 8000000 in
theorem tCovers (a b : RuN) (ha : a.Ok) (hb : b.Ok) (w : World) :
    Calls Tryd.prog 27 #[.agg #[.int .u32 a.s.1, .int .i64 a.s.2, .int .u32 a.d.1, .int .i64 a.d.2, .int .u16 a.lo, .int .u16 a.hi, .int .u32 a.fl], .agg #[.int .u32 b.s.1, .int .i64 b.s.2, .int .u32 b.d.1, .int .i64 b.d.2, .int .u16 b.lo, .int .u16 b.hi, .int .u32 b.fl]] w fun e w' => e = .returned (.bool (covR a b)) ∧ Kp none' w w' := by
  have HS := Lib.hid (fun W => aCovers a.s.1 b.s.1 a.s.2 b.s.2 W ha.s.1 hb.s.1 ha.s.2 hb.s.2)
  have HD := Lib.hid (fun W => aCovers a.d.1 b.d.1 a.d.2 b.d.2 W ha.d.1 hb.d.1 ha.d.2 hb.d.2)
  have hB2 := Blk.new (w.alloc (.cells (enR7 a).toArray 48)) (enR7 b) 48
  rw [World.size_alloc] at hB2
  have HB1 := Lib.hid ((Blk.new w (enR7 a) 48).alloc (.cells (enR7 b).toArray 48)); have HB2 := Lib.hid hB2
  have HK0 := Lib.hid (((Kp.refl none' w).alloc (.cells (enR7 a).toArray 48)).alloc (.cells (enR7 b).toArray 48))
  obtain ⟨R, hR⟩ : ∃ R, covR a b = R := ⟨_, rfl⟩
  rw [hR]
  unfold covR at hR
  have HR := Lib.hid hR
  clear hB2 ha hb hR
  cases hs : covB a.s.1 a.s.2 b.s.1 b.s.2 with
  | false =>
    rw [hs] at HS
    have HE : Hid (R = false) := by show _ = _; rw [← HR.out, hs]; rfl
    clear hs HD
    go_enter Tryd.func27, Tryd.ntmps27
    go_wp2_with fail
    refine (HS.out _).mono ?_
    rintro e w1 ⟨rfl, hk1⟩
    have HK1 := Lib.hid (HK0.out.trans hk1)
    clear hk1
    go_wp2_with fail
    go_ret
    exact ⟨by rw [HE.out]; rfl, HK1.out⟩
  | true =>
    rw [hs] at HS
    cases hd : covB a.d.1 a.d.2 b.d.1 b.d.2 with
    | false =>
      rw [hd] at HD
      have HE : Hid (R = false) := by show _ = _; rw [← HR.out, hs, hd]; rfl
      clear hd hs
      go_enter Tryd.func27, Tryd.ntmps27
      go_wp2_with fail
      refine (HS.out _).mono ?_
      rintro e w1 ⟨rfl, hk1⟩
      have HK1 := Lib.hid (HK0.out.trans hk1)
      have a2 := (HB1.out.kp hk1 (fun x => x)).cell 2 rfl
      have a3 := (HB1.out.kp hk1 (fun x => x)).cell 3 rfl
      have b2 := (HB2.out.kp hk1 (fun x => x)).cell 2 rfl
      have b3 := (HB2.out.kp hk1 (fun x => x)).cell 3 rfl
      clear hk1
      go_wp2_with fail
      refine (HD.out _).mono ?_
      rintro e w2 ⟨rfl, hk2⟩
      have HK2 := Lib.hid (HK1.out.trans hk2)
      clear hk2
      go_wp2_with fail
      go_ret
      exact ⟨by rw [HE.out]; rfl, HK2.out⟩
    | true =>
      rw [hd] at HD
      have HE : Hid (R = (decide (a.lo ≤ b.lo) && decide (b.hi ≤ a.hi))) := by show _ = _; rw [← HR.out, hs, hd]; rfl
      clear hd hs
      go_enter Tryd.func27, Tryd.ntmps27
      go_wp2_with fail
      refine (HS.out _).mono ?_
      rintro e w1 ⟨rfl, hk1⟩
      have HK1 := Lib.hid (HK0.out.trans hk1)
      have HB3 := Lib.hid (HB1.out.kp hk1 (fun x => x)); have HB4 := Lib.hid (HB2.out.kp hk1 (fun x => x))
      have a2 := HB3.out.cell 2 rfl
      have a3 := HB3.out.cell 3 rfl
      have b2 := HB4.out.cell 2 rfl
      have b3 := HB4.out.cell 3 rfl
      clear hk1
      go_wp2_with fail
      refine (HD.out _).mono ?_
      rintro e w2 ⟨rfl, hk2⟩
      have HK2 := Lib.hid (HK1.out.trans hk2)
      have a4 := (HB3.out.kp hk2 (fun x => x)).cell 4 rfl
      have a5 := (HB3.out.kp hk2 (fun x => x)).cell 5 rfl
      have b4 := (HB4.out.kp hk2 (fun x => x)).cell 4 rfl
      have b5 := (HB4.out.kp hk2 (fun x => x)).cell 5 rfl
      clear hk2 a2 a3 b2 b3
      by_cases h1 : a.lo ≤ b.lo
      · by_cases h2 : b.hi ≤ a.hi
        · go_wp2_with fail
          go_ret
          exact ⟨by rw [HE.out, decide_eq_true h1, decide_eq_true h2]; rfl, HK2.out⟩
        · go_wp2_with fail
          go_ret
          exact ⟨by rw [HE.out, decide_eq_true h1, decide_eq_false h2]; rfl, HK2.out⟩
      · go_wp2_with fail
        go_ret
        exact ⟨by rw [HE.out, decide_eq_false h1]; rfl, HK2.out⟩
set_option maxRecDepth 100000 in
set_option maxHeartbeats 8000000 in
theorem tDeadC (a b : RuN) (ha : a.Ok) (hb : b.Ok) (rb : Nat) (w : World) (h : Blk w rb (enR7 b) 48) :
    Calls Tryd.prog 26 #[.agg #[.int .u32 a.s.1, .int .i64 a.s.2, .int .u32 a.d.1, .int .i64 a.d.2, .int .u16 a.lo, .int .u16 a.hi, .int .u32 a.fl], .pointer (some ⟨rb, 0, none⟩)] w fun e w' => e = .returned (.bool (covR a b)) ∧ Kp none' w w' := by
  have hk := (Kp.refl none' w).alloc (.cells #[.int .u32 a.s.1, .int .i64 a.s.2, .int .u32 a.d.1, .int .i64 a.d.2, .int .u16 a.lo, .int .u16 a.hi, .int .u32 a.fl] 48)
  have h' := h.kp hk (fun x => x)
  have b0 := h'.cell 0 rfl
  have b1 := h'.cell 1 rfl
  have b2 := h'.cell 2 rfl
  have b3 := h'.cell 3 rfl
  have b4 := h'.cell 4 rfl
  have b5 := h'.cell 5 rfl
  have b6 := h'.cell 6 rfl
  have HC := Lib.hid (fun W => tCovers a b ha hb W)
  have HK := Lib.hid hk
  clear h h' hk ha hb
  go_enter Tryd.func26, Tryd.ntmps26
  go_wp2_with (go_at_call 27; refine (HC.out _).mono ?_; rintro e w1 ⟨rfl, hk1⟩; have HK1 := Lib.hid (HK.out.trans hk1); clear hk1)
  go_ret
  exact ⟨rfl, HK1.out⟩
def idxV (o : Option Nat) : Int := match o with | none => -1 | some i => i
set_option maxRecDepth 100000 in
set_option maxHeartbeats 8000000 in
theorem tIndex (l : List RuN) (hok : ∀ r ∈ l, r.Ok) (b : RuN) (hb : b.Ok) (k : Nat) (hk : k ≤ l.length) (ao : Option Addr) (cap0 cap : Nat) (rb : Nat) (w : World) (hS : Sl w (.slice ao l.length cap0) l.length 7 (l.flatMap enR7)) (h : Blk w rb (enR7 b) 48) :
    Calls Tryd.prog 40 #[.slice ao k cap, .func (.func 26) #[] #[.pointer (some ⟨rb, 0, none⟩)]] w fun e w' => e = .returned (.int .i64 (idxV (firstOf (fun j => covR (l.getD j default) b) k))) ∧ Kp none' w w' := by
  have hmax := hS.max
  have HS := Lib.hid hS; have HB := Lib.hid h; have HO := Lib.hid hok; have HBO := Lib.hid hb
  obtain ⟨R, hR⟩ : ∃ R, idxV (firstOf (fun j => covR (l.getD j default) b) k) = R := ⟨_, rfl⟩
  rw [hR]
  have HR := Lib.hid hR
  clear hS h hok hb hR
  go_enter Tryd.func40, Tryd.ntmps40
  go_wp2_with fail
  go_loopw [8] (fun i wr => ∃ j : Nat, i = .int .i64 j ∧ j ≤ k ∧ Hid ((∀ q, q < j → covR (l.getD q default) b = false) ∧ Kp none' w wr)) (fun i _ => k - (intOf i).toNat)
  case atStart => exact ⟨0, rfl, Nat.zero_le _, fun q hq => by omega, Kp.refl _ _⟩
  case round =>
    obtain ⟨j, rfl, hj, HI⟩ := hrel
    by_cases hlt : j < k
    · have hlt2 : j < l.length := by omega
      obtain ⟨g, off, cap', e1, hc⟩ := (HS.out.old HI.out.2).at enR7_len (by decide) j hlt2
      injection e1 with e1 _ e3
      subst e1 e3
      have hji : (j : Int) < k := by omega
      have hgd := getD_at (default : RuN) hlt2
      obtain ⟨o, ho⟩ : ∃ o, l[j] = o := ⟨_, rfl⟩
      have hoo := HO.out o (by rw [← ho]; exact List.getElem_mem hlt2)
      rw [ho] at hc hgd
      have HGD := Lib.hid hgd
      have c0 : wr.cell? ⟨g, off + j * 7, none⟩ = some (.int .u32 o.s.1) := hc 0 _ rfl
      have c1 := hc 1 _ rfl
      have c2 := hc 2 _ rfl
      have c3 := hc 3 _ rfl
      have c4 := hc 4 _ rfl
      have c5 := hc 5 _ rfl
      have c6 := hc 6 _ rfl
      have HC := Lib.hid (tDeadC o b hoo HBO.out rb wr (HB.out.kp HI.out.2 (fun x => x)))
      clear hc ho hoo hgd
      cases hcv : covR o b with
      | true =>
        rw [hcv] at HC
        have hf : firstOf (fun j => covR (l.getD j default) b) k = some j := firstOf_some.2 ⟨hlt, by show covR (l.getD j default) b = true; rw [HGD.out]; exact hcv, HI.out.1⟩
        have he : R = j := by rw [← HR.out, hf]; rfl
        have HE := Lib.hid he
        clear hf he hcv
        go_wp2_with (go_at_call 26; refine HC.out.mono ?_; rintro e w1 ⟨rfl, hk1⟩; have HK1 := Lib.hid (HI.out.2.trans hk1); clear hk1)
        go_ret
        exact ⟨by rw [HE.out]; rfl, HK1.out⟩
      | false =>
        rw [hcv] at HC
        have HN : Hid (∀ q, q < j + 1 → covR (l.getD q default) b = false) := fun q hq => by
          rcases Nat.lt_or_ge q j with h1 | h1
          · exact HI.out.1 q h1
          · have : q = j := by omega
            subst this; rw [HGD.out]; exact hcv
        clear hcv
        go_wp2_with (go_at_call 26; refine HC.out.mono ?_; rintro e w1 ⟨rfl, hk1⟩; have HK1 := Lib.hid (HI.out.2.trans hk1); clear hk1)
        go_roundw
        case rel => exact ⟨j + 1, by go_num, by omega, HN.out, HK1.out⟩
        case measure => simp [intOf]; omega
    · have hjn : j = k := by omega
      subst hjn
      have hf : firstOf (fun j => covR (l.getD j default) b) j = none := firstOf_none.2 HI.out.1
      have he : R = -1 := by rw [← HR.out, hf]; rfl
      have HE := Lib.hid he
      clear hf he
      go_wp2_with fail
      go_ret
      exact ⟨by rw [HE.out]; rfl, HI.out.2⟩
theorem any_first (l : List RuN) (p : RuN → Bool) (k : Nat) (hk : k ≤ l.length) : (l.take k).any p = isN (firstOf (fun j => p (l.getD j default)) k) := by
  cases hf : firstOf (fun j => p (l.getD j default)) k with
  | none =>
    have h := firstOf_none.1 hf
    show _ = false
    rw [List.any_eq_false]
    intro x hx
    obtain ⟨j, hj, rfl⟩ := List.getElem_of_mem hx
    rw [List.length_take] at hj
    have := h j (by omega)
    rw [getD_at _ (by omega)] at this
    rw [List.getElem_take, this]
    decide
  | some i =>
    obtain ⟨hi, h, _⟩ := firstOf_some.1 hf
    show _ = true
    rw [List.any_eq_true]
    refine ⟨l.getD i default, ?_, h⟩
    rw [getD_at _ (by omega)]
    exact List.mem_take_iff_getElem.2 ⟨i, by omega, rfl⟩
set_option maxRecDepth 100000 in
set_option maxHeartbeats 8000000 in
theorem tContains (l : List RuN) (hok : ∀ r ∈ l, r.Ok) (b : RuN) (hb : b.Ok) (k : Nat) (hk : k ≤ l.length) (ao : Option Addr) (cap0 cap : Nat) (rb : Nat) (w : World) (hS : Sl w (.slice ao l.length cap0) l.length 7 (l.flatMap enR7)) (h : Blk w rb (enR7 b) 48) :
    Calls Tryd.prog 25 #[.slice ao k cap, .func (.func 26) #[] #[.pointer (some ⟨rb, 0, none⟩)]] w fun e w' => e = .returned (.bool ((l.take k).any (fun o => covR o b))) ∧ Kp none' w w' := by
  have HI := Lib.hid (tIndex l hok b hb k hk ao cap0 cap rb w hS h)
  rw [any_first l (fun o => covR o b) k hk]
  obtain ⟨f, hf⟩ : ∃ f, firstOf (fun j => covR (l.getD j default) b) k = f := ⟨_, rfl⟩
  rw [hf] at HI ⊢
  clear hS h hok hb hf
  cases f with
  | none =>
    simp only [idxV, isN] at HI ⊢
    go_enter Tryd.func25, Tryd.ntmps25
    go_wp2_with (go_at_call 40; refine HI.out.mono ?_; rintro e w1 ⟨rfl, hk1⟩; have HK1 := Lib.hid hk1; clear hk1)
    go_ret
    exact ⟨rfl, HK1.out⟩
  | some i =>
    simp only [idxV, isN] at HI ⊢
    have hi : (0 : Int) ≤ i := by omega
    go_enter Tryd.func25, Tryd.ntmps25
    go_wp2_with (go_at_call 40; refine HI.out.mono ?_; rintro e w1 ⟨rfl, hk1⟩; have HK1 := Lib.hid hk1; clear hk1)
    go_ret
    exact ⟨by simp, HK1.out⟩
end Go.Proofs.YthnlggecjdifnaaDoor
