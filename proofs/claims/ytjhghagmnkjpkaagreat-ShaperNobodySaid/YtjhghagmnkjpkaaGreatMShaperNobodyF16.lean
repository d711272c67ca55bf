/- Queues with bounds (layer 12): Push. -/
import Derived.Test.YtjhghagmnkjpkaaGreatMShaperNobodyF15
import Derived.Test.YtjhghagmnkjpkaaGreatMShaperNobodyF7
import Derived.Test.YtjhghagmnkjpkaaGreatMShaperNobodyF12
namespace Go.Proofs.YtjhghagmnkjpkaaGreat
set_option linter.unusedVariables false
set_option linter.unusedSimpArgs false
open Go Go.RowKit Go.Shelf

theorem atB_above (bs : List Nat) (r : Nat) : ∀ k i, atB bs r k < i → i ≤ k → r < bs.getD i 0
  | 0, i, h1, h2 => by omega
  | k + 1, i, h1, h2 => by
    unfold atB at h1
    split at h1
    · omega
    · rename_i h3
      by_cases e : i = k + 1
      · subst e; omega
      · exact atB_above bs r k i h1 (by omega)
theorem atB_at (bs : List Nat) (r : Nat) : ∀ k, atB bs r k ≠ 0 → bs.getD (atB bs r k) 0 ≤ r
  | 0, h => absurd rfl h
  | k + 1, h => by
    unfold atB at h ⊢
    split
    · rename_i h3; exact h3
    · rename_i h3; rw [if_neg h3] at h; exact atB_at bs r k h
theorem getD_set {α : Type} (l : List α) (i j : Nat) (x d : α) (hi : i < l.length) : (l.set i x).getD j d = if j = i then x else l.getD j d := by
  rw [List.getD_eq_getElem?_getD, List.getD_eq_getElem?_getD]
  by_cases e : j = i
  · subst e; rw [if_pos rfl, List.getElem?_set_self hi]; rfl
  · rw [if_neg e, List.getElem?_set_ne (fun h => e h.symm)]
theorem pushB_len (bs : List Nat) (r : Nat) : (pushB bs r).length = bs.length := by unfold pushB; split <;> simp
theorem pushB_up {bs : List Nat} (h : Upw bs) (hn : 1 ≤ bs.length) (r : Nat) : Upw (pushB bs r) := by
  intro i hi
  rw [pushB_len] at hi
  have h0 := h i hi
  unfold pushB
  split
  · have hg : ∀ j, j < bs.length → (bs.map (fun b => b - (bs.getD 0 0 - r))).getD j 0 = bs.getD j 0 - (bs.getD 0 0 - r) := fun j hj => by
      have e1 : bs.getD j 0 = bs[j] := by rw [List.getD_eq_getElem?_getD, List.getElem?_eq_getElem hj]; rfl
      rw [e1, List.getD_eq_getElem?_getD, List.getElem?_map, List.getElem?_eq_getElem hj]; rfl
    rw [hg 0 (by omega), hg i hi]; omega
  · rename_i h1
    have hA := atB_le bs r (bs.length - 1)
    rw [getD_set _ _ _ _ _ (by omega), getD_set _ _ _ _ _ (by omega)]
    by_cases e : atB bs r (bs.length - 1) = 0
    · rw [if_pos e.symm]
      by_cases e2 : i = atB bs r (bs.length - 1)
      · rw [if_pos e2]; exact Nat.le_refl _
      · rw [if_neg e2]
        exact Nat.le_of_lt (atB_above bs r (bs.length - 1) i (by omega) (by omega))
    · rw [if_neg (fun e2 => e e2.symm)]
      by_cases e2 : i = atB bs r (bs.length - 1)
      · rw [if_pos e2]; have := atB_at bs r _ e; have := h _ (show atB bs r (bs.length - 1) < bs.length by omega); omega
      · rw [if_neg e2]; exact h0
theorem pushB_ok {bs : List Nat} (h : ∀ b ∈ bs, b < 18446744073709551616) (r : Nat) (hr : r < 18446744073709551616) : ∀ b ∈ pushB bs r, b < 18446744073709551616 := by
  intro b hb
  unfold pushB at hb
  split at hb
  · obtain ⟨x, hx, rfl⟩ := List.mem_map.1 hb
    have := h x hx; omega
  · rcases List.mem_or_eq_of_mem_set hb with h1 | h1
    · exact h b h1
    · rw [h1]; exact hr
theorem tot_set {Qs : List (List It)} {i : Nat} {Q : List It} (h : Qs[i]? = some Q) (x : It) : totQ (Qs.set i (Q ++ [x])) = totQ Qs + 1 := by
  induction Qs generalizing i with
  | nil => simp at h
  | cons a r ih =>
    cases i with
    | zero =>
      simp only [List.getElem?_cons_zero, Option.some.injEq] at h
      subst h
      simp [totQ]; omega
    | succ i =>
      have := ih (i := i) (by simpa using h)
      simp only [totQ, List.set_cons_succ, List.map_cons, List.sum_cons] at *
      omega
theorem tot_le {Qs : List (List It)} {i : Nat} {Q : List It} (h : Qs[i]? = some Q) : Q.length ≤ totQ Qs := by
  induction Qs generalizing i with
  | nil => simp at h
  | cons a r ih =>
    cases i with
    | zero =>
      simp only [List.getElem?_cons_zero, Option.some.injEq] at h
      subst h
      simp [totQ]
    | succ i =>
      have := ih (i := i) (by simpa using h)
      simp only [totQ, List.map_cons, List.sum_cons] at *
      omega
theorem qPush {w : World} {F : Nat → Prop} {qb room : Nat} {bs : List Nat} {Qs : List (List It)} (h : Qu w F qb room bs Qs) (hl : totQ Qs < room) (r fl id ln : Nat) (hr : r < 18446744073709551616) :
    Calls Tryz.prog 93 #[.pointer (some ⟨qb, 0, none⟩), .int .u64 r, .agg #[.int .u32 fl, .int .u32 id, .int .u64 ln]] w fun e w' => e = .returned (.tuple #[.int .i64 (atB bs r (bs.length - 1) : Nat), .bool true]) ∧ ∃ F', Qu w' F' qb room (pushB bs r) (pushQ bs Qs r ⟨r, ⟨fl, id, ln⟩⟩) ∧ Kp F w w' ∧ Nw w F F' := by
  obtain ⟨v1, v2, ps, Fs, rfl, hm⟩ := h
  obtain ⟨A, hA⟩ : ∃ A, atB bs r (bs.length - 1) = A := ⟨_, rfl⟩
  have hle : A ≤ bs.length - 1 := by rw [← hA]; exact atB_le _ _ _
  have hfew := hm.few
  have hAQ : A < Qs.length := by have := hm.blen; omega
  have hAp : A < ps.length := by rw [hm.plen]; exact hAQ
  have hp := List.getElem?_eq_getElem hAp
  have hQ := List.getElem?_eq_getElem hAQ
  obtain ⟨p, hpe⟩ : ∃ p, ps[A] = p := ⟨_, rfl⟩
  obtain ⟨Q, hQe⟩ : ∃ Q, Qs[A] = Q := ⟨_, rfl⟩
  rw [hpe] at hp
  rw [hQe] at hQ
  have hring := hm.rings A p Q hp hQ
  obtain ⟨g1, c1, rfl, _⟩ := own_shape1 hm.prow (by omega)
  obtain ⟨g2, c2, rfl, _⟩ := own_shape1 hm.brow (by have := hm.blen; omega)
  have n1 : g1 ≠ qb := fun e => own_ne_blk hm.prow hm.top (by decide) (by rw [e]; rfl)
  have n2 : g2 ≠ qb := fun e => own_ne_blk hm.brow hm.top (by decide) (by rw [e]; rfl)
  have n3 : g1 ≠ g2 := fun e => own_ne_own hm.prow hm.brow (by decide) g1 rfl (by rw [e]; rfl)
  have hG : ∀ i, i < ps.length → ¬ Fs i qb ∧ ¬ Fs i g1 ∧ ¬ Fs i g2 := fun i hi => by
    have hri := hm.rings i _ _ (List.getElem?_eq_getElem hi) (List.getElem?_eq_getElem (by rw [← hm.plen]; exact hi))
    exact ⟨hri.ne hm.top (by decide) (by decide), hri.neO hm.prow (by decide) (by decide) g1 rfl, hri.neO hm.brow (by decide) (by decide) g2 rfl⟩
  obtain ⟨hGq, hGg1, hGg2⟩ := hG A hAp
  have hput : PutOk w g2 p room (Fs A) Q r fl id ln := fun W k => by
    refine (rgPut (hring.kp k (fun b hb e => hGg2 (e ▸ hb))) (by have := tot_le hQ; omega) ⟨r, ⟨fl, id, ln⟩⟩).mono ?_
    rintro e w' ⟨a, F', b, c, d⟩
    exact ⟨a, F', b, c, d⟩
  have hxp : w.cell? ⟨g1, A, none⟩ = some (.pointer (some ⟨p, 0, none⟩)) := own_cell hm.prow A (by rw [List.getElem?_map, hp]; rfl)
  have hpl := hm.plen
  have hbl := hm.blen
  have key : Calls Tryz.prog 93 #[.pointer (some ⟨qb, 0, none⟩), .int .u64 r, .agg #[.int .u32 fl, .int .u32 id, .int .u64 ln]] w fun e w' => PushPost w qb g1 c1 g2 c2 bs.length room (totQ Qs) p A (Fs A) Q (pushB bs r) r fl id ln e w' := by
    have htop := hm.top
    rw [show ps.length = bs.length by omega] at htop
    unfold pushB
    rw [hA]
    by_cases hc : A = 0 ∧ r < bs.getD 0 0
    · rw [if_pos hc]
      exact qPushA r fl id ln htop hm.brow hxp ⟨n2, hGg2⟩ n3 hGq hl hm.tot.2 (by omega) rfl hA hput hc.1 hc.2 hm.up hm.bok
    · rw [if_neg hc]
      exact qPushB r fl id ln htop hm.brow hxp ⟨n2, hGg2⟩ n3 hGq hl hm.tot.2 (by omega) rfl hA hput hc
  refine key.mono ?_
  rintro e w' ⟨he, hT, hO, ⟨F', hR, hN⟩, hK⟩
  have hQD : Qs.getD A [] = Q := by rw [List.getD_eq_getElem?_getD, hQ]; rfl
  have hpush : pushQ bs Qs r ⟨r, ⟨fl, id, ln⟩⟩ = Qs.set A (Q ++ [⟨r, ⟨fl, id, ln⟩⟩]) := by unfold pushQ; rw [hA, hQD]
  have hlt : ∀ i, i < ps.length → ∀ b, Fs i b → b < w.heap.size := fun i hi b hb =>
    (hm.rings i _ _ (List.getElem?_eq_getElem hi) (List.getElem?_eq_getElem (by rw [← hm.plen]; exact hi))).lt hb
  have hsub : ∀ b, (b = qb ∨ b = g2 ∨ Fs A b) → QuF qb (.slice (some ⟨g1, 0, none⟩) ps.length c1) (.slice (some ⟨g2, 0, none⟩) bs.length c2) ps Fs b := fun b hb => by
    rcases hb with rfl | rfl | hb
    · exact .inl rfl
    · exact .inr (.inr (.inl rfl))
    · exact .inr (.inr (.inr ⟨A, hAp, hb⟩))
  refine ⟨by rw [he, hA], QuF qb (.slice (some ⟨g1, 0, none⟩) ps.length c1) (.slice (some ⟨g2, 0, none⟩) bs.length c2) ps (fun i => if i = A then F' else Fs i), ⟨_, _, ps, _, rfl, ?_⟩, hK.mono (fun b _ => hsub b), ?_⟩
  · rw [hpush]
    refine { top := ?_, prow := own_kp hm.prow hK (fun b hb hc => ?_), brow := by rw [pushB_len]; exact hO, plen := by rw [List.length_set]; exact hm.plen, blen := by rw [List.length_set, pushB_len]; exact hm.blen, few := by rw [List.length_set]; exact hm.few, tot := by rw [tot_set hQ]; exact ⟨by omega, hm.tot.2⟩, up := pushB_up hm.up (by omega) r, bok := pushB_ok hm.bok r hr, rings := fun i p' Q' hp' hQ' => ?_, apart := fun i j b hi hj hij h1 h2 => ?_ }
    · rw [tot_set hQ, hpl.trans hbl.symm]; exact hT
    · have hb' : g1 = b := Option.some.inj hb
      subst hb'
      rcases hc with e | e | e
      · exact n1 e
      · exact n3 e
      · exact hGg1 e
    · by_cases e : i = A
      · subst e
        rw [List.getElem?_set_self hAQ] at hQ'
        injection hQ' with hQ'
        rw [hp] at hp'
        injection hp' with hp'
        subst hp' hQ'
        rw [if_pos rfl]; exact hR
      · rw [List.getElem?_set_ne (fun h => e h.symm)] at hQ'
        rw [if_neg e]
        have hi : i < ps.length := (List.getElem?_eq_some_iff.1 hp').1
        obtain ⟨a1, a2, a3⟩ := hG i hi
        exact (hm.rings i p' Q' hp' hQ').kp hK (fun b hb hc => by
          rcases hc with rfl | rfl | hc
          · exact a1 hb
          · exact a3 hb
          · exact hm.apart i A b hi hAp e hb hc)
    · by_cases e1 : i = A
      · rw [if_pos e1] at h1
        rw [if_neg (fun e => hij (e1.trans e.symm))] at h2
        subst e1
        rcases hN b h1 with h3 | h3
        · exact hm.apart i j b hi hj hij h3 h2
        · have := hlt j hj b h2; omega
      · rw [if_neg e1] at h1
        by_cases e2 : j = A
        · rw [if_pos e2] at h2
          subst e2
          rcases hN b h2 with h3 | h3
          · exact hm.apart i j b hi hj hij h1 h3
          · have := hlt i hi b h1; omega
        · rw [if_neg e2] at h2
          exact hm.apart i j b hi hj hij h1 h2
  · intro b hb
    rcases hb with rfl | hb | hb | ⟨i, hi, hb⟩
    · exact .inl (.inl rfl)
    · exact .inl (.inr (.inl hb))
    · exact .inl (.inr (.inr (.inl hb)))
    · by_cases e : i = A
      · rw [if_pos e] at hb
        rcases hN b hb with h | h
        · exact .inl (hsub b (.inr (.inr h)))
        · exact .inr h
      · rw [if_neg e] at hb
        exact .inl (.inr (.inr (.inr ⟨i, hi, hb⟩)))
end Go.Proofs.YtjhghagmnkjpkaaGreat

namespace Go.Proofs.YtjhghagmnkjpkaaGreat
set_option linter.unusedVariables false
set_option linter.unusedSimpArgs false
open Go Go.RowKit Go.Shelf

set_option maxRecDepth 100000 in
set_option maxHeartbeats 1000000 in
theorem wPushH {Q : World → Prop} {w : World} {hb r fl id ln : Nat} (H : ∀ W, Kp none' w W → Calls Tryz.prog 113 #[.pointer (some ⟨hb, 0, none⟩), .int .u64 r, .agg #[.int .u32 fl, .int .u32 id, .int .u64 ln]] W fun e w' => (∃ x : Bool, e = .returned (.bool x)) ∧ Q w') :
    Calls Tryz.prog 109 #[.agg #[.pointer (some ⟨hb, 0, none⟩)], .int .u64 r, .agg #[.int .u32 fl, .int .u32 id, .int .u64 ln]] w fun e w' => e = .returned (.tuple #[]) ∧ Q w' := by
  have H := Lib.hid H
  have HK := Lib.hid (((Kp.refl none' w).alloc (.cells #[.pointer (some ⟨hb, 0, none⟩)] 102)).alloc (.cells #[.int .u32 fl, .int .u32 id, .int .u64 ln] 31))
  go_enter Tryz.func109, Tryz.ntmps109
  go_wp2_with fail
  refine (H.out _ HK.out).mono ?_
  rintro e w' ⟨⟨x, rfl⟩, hq⟩
  have HQ := Lib.hid hq
  clear hq
  go_wp2_with fail
  go_end0
  exact ⟨rfl, HQ.out⟩
set_option maxRecDepth 100000 in
set_option maxHeartbeats 1000000 in
theorem wPopH {Q : World → Prop} {w : World} {hb : Nat} (H : ∀ W, Kp none' w W → Calls Tryz.prog 112 #[.pointer (some ⟨hb, 0, none⟩)] W fun e w' => (∃ x y z, e = .returned (.tuple #[x, y, z])) ∧ Q w') :
    Calls Tryz.prog 108 #[.agg #[.pointer (some ⟨hb, 0, none⟩)]] w fun e w' => e = .returned (.tuple #[]) ∧ Q w' := by
  have H := Lib.hid H
  have HK := Lib.hid ((Kp.refl none' w).alloc (.cells #[.pointer (some ⟨hb, 0, none⟩)] 102))
  go_enter Tryz.func108, Tryz.ntmps108
  go_wp2_with fail
  refine (H.out _ HK.out).mono ?_
  rintro e w' ⟨⟨x, y, z, rfl⟩, hq⟩
  have HQ := Lib.hid hq
  clear hq
  go_wp2_with fail
  go_end0
  exact ⟨rfl, HQ.out⟩
set_option maxRecDepth 100000 in
set_option maxHeartbeats 1000000 in
theorem wPeekH {w : World} {hb r fl id ln : Nat} {is : Bool} (H : ∀ W, Kp none' w W → Calls Tryz.prog 111 #[.pointer (some ⟨hb, 0, none⟩)] W fun e w' => e = .returned (.tuple #[.int .u64 r, .agg #[.int .u32 fl, .int .u32 id, .int .u64 ln], .bool is]) ∧ Kp none' W w') :
    Calls Tryz.prog 107 #[.agg #[.pointer (some ⟨hb, 0, none⟩)]] w fun e w' => e = .returned (.tuple #[.int .u64 r, .agg #[.int .u32 fl, .int .u32 id, .int .u64 ln], .bool is]) ∧ Kp none' w w' := by
  have H := Lib.hid H
  have HK := Lib.hid (((Kp.refl none' w).alloc (.cells #[.pointer (some ⟨hb, 0, none⟩)] 102)).alloc (.cells #[.int .u32 0, .int .u32 0, .int .u64 0] 31))
  have HB : Hid (Blk ((w.alloc (.cells #[.pointer (some ⟨hb, 0, none⟩)] 102)).alloc (.cells #[.int .u32 0, .int .u32 0, .int .u64 0] 31)) (w.heap.size + 1) [.int .u32 0, .int .u32 0, .int .u64 0] 31) := Lib.hid (by
    have := Blk.new (w.alloc (.cells #[.pointer (some ⟨hb, 0, none⟩)] 102)) [.int .u32 0, .int .u32 0, .int .u64 0] 31
    simpa using this)
  go_enter Tryz.func107, Tryz.ntmps107
  go_wp2_with fail
  refine (H.out _ HK.out).mono ?_
  rintro e w2 ⟨rfl, hk2⟩
  have HB2 := Lib.hid (HB.out.kp hk2 (fun x => x))
  have HK2 := Lib.hid (HK.out.trans hk2)
  clear hk2
  have b0 := HB2.out.cell 0 rfl
  have b1 := HB2.out.cell 1 rfl
  have b2 := HB2.out.cell 2 rfl
  have bf := fun j => HB2.out.fz j
  go_wp2_with fail
  exact ret_mid (by exact rfl) ((((HB2.out.set 0 (.int .u32 (fl : Int))).set 1 (.int .u32 (id : Int))).set 2 (.int .u64 (ln : Int)))) _ Tryz.underlying31 rfl infoPk (by exact rfl) ⟨rfl, (((HK2.out.set (p := ⟨w.heap.size + 1, 0, none⟩) (.inr (Nat.le_succ _)) _).set (p := ⟨w.heap.size + 1, 1, none⟩) (.inr (Nat.le_succ _)) _).set (p := ⟨w.heap.size + 1, 2, none⟩) (.inr (Nat.le_succ _)) _)⟩
set_option maxRecDepth 100000 in
set_option maxHeartbeats 1000000 in
theorem wPushQ {Q : World → Prop} {w : World} {hb r fl id ln : Nat} (H : ∀ W, Kp none' w W → Calls Tryz.prog 93 #[.pointer (some ⟨hb, 0, none⟩), .int .u64 r, .agg #[.int .u32 fl, .int .u32 id, .int .u64 ln]] W fun e w' => (∃ x : Int, e = .returned (.tuple #[.int .i64 x, .bool true])) ∧ Q w') :
    Calls Tryz.prog 89 #[.agg #[.pointer (some ⟨hb, 0, none⟩)], .int .u64 r, .agg #[.int .u32 fl, .int .u32 id, .int .u64 ln]] w fun e w' => e = .returned (.tuple #[]) ∧ Q w' := by
  have H := Lib.hid H
  have HK := Lib.hid (((Kp.refl none' w).alloc (.cells #[.pointer (some ⟨hb, 0, none⟩)] 69)).alloc (.cells #[.int .u32 fl, .int .u32 id, .int .u64 ln] 31))
  go_enter Tryz.func89, Tryz.ntmps89
  go_wp2_with fail
  refine (H.out _ HK.out).mono ?_
  rintro e w' ⟨⟨x, rfl⟩, hq⟩
  have HQ := Lib.hid hq
  clear hq
  go_wp2_with fail
  go_end0
  exact ⟨rfl, HQ.out⟩
set_option maxRecDepth 100000 in
set_option maxHeartbeats 1000000 in
theorem wPopQ {Q : World → Prop} {w : World} {hb : Nat} (H : ∀ W, Kp none' w W → Calls Tryz.prog 92 #[.pointer (some ⟨hb, 0, none⟩)] W fun e w' => (∃ x y z, e = .returned (.tuple #[x, y, z])) ∧ Q w') :
    Calls Tryz.prog 88 #[.agg #[.pointer (some ⟨hb, 0, none⟩)]] w fun e w' => e = .returned (.tuple #[]) ∧ Q w' := by
  have H := Lib.hid H
  have HK := Lib.hid ((Kp.refl none' w).alloc (.cells #[.pointer (some ⟨hb, 0, none⟩)] 69))
  go_enter Tryz.func88, Tryz.ntmps88
  go_wp2_with fail
  refine (H.out _ HK.out).mono ?_
  rintro e w' ⟨⟨x, y, z, rfl⟩, hq⟩
  have HQ := Lib.hid hq
  clear hq
  go_wp2_with fail
  go_end0
  exact ⟨rfl, HQ.out⟩
set_option maxRecDepth 100000 in
set_option maxHeartbeats 1000000 in
theorem wPeekQ {w : World} {hb r fl id ln : Nat} {is : Bool} (H : ∀ W, Kp none' w W → Calls Tryz.prog 91 #[.pointer (some ⟨hb, 0, none⟩)] W fun e w' => e = .returned (.tuple #[.int .u64 r, .agg #[.int .u32 fl, .int .u32 id, .int .u64 ln], .bool is]) ∧ Kp none' W w') :
    Calls Tryz.prog 87 #[.agg #[.pointer (some ⟨hb, 0, none⟩)]] w fun e w' => e = .returned (.tuple #[.int .u64 r, .agg #[.int .u32 fl, .int .u32 id, .int .u64 ln], .bool is]) ∧ Kp none' w w' := by
  have H := Lib.hid H
  have HK := Lib.hid (((Kp.refl none' w).alloc (.cells #[.pointer (some ⟨hb, 0, none⟩)] 69)).alloc (.cells #[.int .u32 0, .int .u32 0, .int .u64 0] 31))
  have HB : Hid (Blk ((w.alloc (.cells #[.pointer (some ⟨hb, 0, none⟩)] 69)).alloc (.cells #[.int .u32 0, .int .u32 0, .int .u64 0] 31)) (w.heap.size + 1) [.int .u32 0, .int .u32 0, .int .u64 0] 31) := Lib.hid (by
    have := Blk.new (w.alloc (.cells #[.pointer (some ⟨hb, 0, none⟩)] 69)) [.int .u32 0, .int .u32 0, .int .u64 0] 31
    simpa using this)
  go_enter Tryz.func87, Tryz.ntmps87
  go_wp2_with fail
  refine (H.out _ HK.out).mono ?_
  rintro e w2 ⟨rfl, hk2⟩
  have HB2 := Lib.hid (HB.out.kp hk2 (fun x => x))
  have HK2 := Lib.hid (HK.out.trans hk2)
  clear hk2
  have b0 := HB2.out.cell 0 rfl
  have b1 := HB2.out.cell 1 rfl
  have b2 := HB2.out.cell 2 rfl
  have bf := fun j => HB2.out.fz j
  go_wp2_with fail
  exact ret_mid (by exact rfl) ((((HB2.out.set 0 (.int .u32 (fl : Int))).set 1 (.int .u32 (id : Int))).set 2 (.int .u64 (ln : Int)))) _ Tryz.underlying31 rfl infoPk (by exact rfl) ⟨rfl, (((HK2.out.set (p := ⟨w.heap.size + 1, 0, none⟩) (.inr (Nat.le_succ _)) _).set (p := ⟨w.heap.size + 1, 1, none⟩) (.inr (Nat.le_succ _)) _).set (p := ⟨w.heap.size + 1, 2, none⟩) (.inr (Nat.le_succ _)) _)⟩
end Go.Proofs.YtjhghagmnkjpkaaGreat

namespace Go.Proofs.YtjhghagmnkjpkaaGreat
set_option linter.unusedVariables false
set_option linter.unusedSimpArgs false
open Go Go.RowKit Go.Shelf

/-- A backend: a heap, or queues. -/
inductive BkS
  | hp (n : Nat) (S : List (En Pk))
  | qu (bs : List Nat) (Qs : List (List It))
def itE (e : En Pk) : It := ⟨e.rank, e.x⟩
def bkItems : BkS → List It
  | .hp _ S => S.map itE
  | .qu _ Qs => Qs.flatten
def bkPeek (s : BkS) : It × Bool := hdI (bkItems s)
def bkN : BkS → Nat
  | .hp n _ => n
  | .qu _ _ => 0
def bkPush : BkS → Nat → Pk → BkS
  | .hp n S, r, p => .hp (n + 1) (insE S ⟨r, n, p⟩)
  | .qu bs Qs, r, p => .qu (pushB bs r) (pushQ bs Qs r ⟨r, p⟩)
def popQ (Qs : List (List It)) : List (List It) := match fstQ Qs with
  | some i => Qs.set i (Qs.getD i []).tail
  | none => Qs
def bkPop : BkS → BkS
  | .hp n S => .hp n S.tail
  | .qu bs Qs => .qu bs (popQ Qs)
def bkWf : BkS → Prop
  | .hp _ _ => True
  | .qu bs Qs => bs.length = Qs.length ∧ 1 ≤ bs.length
theorem flat_head {Qs : List (List It)} {i : Nat} {q : It} {Q : List It} (h : Qs[i]? = some (q :: Q)) (h0 : ∀ j, j < i → Qs[j]? = some []) : Qs.flatten = q :: (Q ++ (Qs.drop (i + 1)).flatten) ∧ (Qs.set i Q).flatten = Q ++ (Qs.drop (i + 1)).flatten := by
  induction Qs generalizing i with
  | nil => simp at h
  | cons a r ih =>
    cases i with
    | zero =>
      simp only [List.getElem?_cons_zero, Option.some.injEq] at h
      subst h
      simp
    | succ i =>
      have ha : a = [] := by have := h0 0 (by omega); simpa using this
      subst ha
      obtain ⟨h1, h2⟩ := ih (i := i) (by simpa using h) (fun j hj => by have := h0 (j + 1) (by omega); simpa using this)
      simp only [List.flatten_cons, List.nil_append, List.set_cons_succ, List.drop_succ_cons]
      exact ⟨h1, h2⟩
theorem flat_nil {Qs : List (List It)} (h : fstQ Qs = none) : Qs.flatten = [] := by
  rw [List.flatten_eq_nil_iff]
  intro l hl
  obtain ⟨i, hi, rfl⟩ := List.getElem_of_mem hl
  have := fstQ_none h i hi
  rw [List.getElem?_eq_getElem hi] at this
  exact Option.some.inj this
theorem peek_qu (bs : List Nat) (Qs : List (List It)) : bkPeek (.qu bs Qs) = peekQ Qs := by
  show hdI Qs.flatten = _
  unfold peekQ
  cases h : fstQ Qs with
  | none => rw [flat_nil h]; rfl
  | some i =>
    obtain ⟨q, Q, h1, h2⟩ := fstQ_some h
    rw [(flat_head h1 h2).1]
    simp only [List.getD_eq_getElem?_getD, h1, Option.getD_some]
    rfl
theorem peek_hp (n : Nat) (S : List (En Pk)) : bkPeek (.hp n S) = ((⟨(peekH S).1.rank, (peekH S).1.x⟩ : It), (peekH S).2) := by
  cases S <;> rfl
theorem pop_items (s : BkS) : bkItems (bkPop s) = (bkItems s).tail := by
  cases s with
  | hp n S => cases S <;> rfl
  | qu bs Qs =>
    show (popQ Qs).flatten = Qs.flatten.tail
    unfold popQ
    cases h : fstQ Qs with
    | none => simp [flat_nil h]
    | some i =>
      obtain ⟨q, Q, h1, h2⟩ := fstQ_some h
      simp only [List.getD_eq_getElem?_getD, h1, Option.getD_some, List.tail_cons]
      rw [(flat_head h1 h2).1, (flat_head h1 h2).2, List.tail_cons]
theorem set_flat_perm {Qs : List (List It)} {i : Nat} {Q : List It} (h : Qs[i]? = some Q) (x : It) : (Qs.set i (Q ++ [x])).flatten.Perm (x :: Qs.flatten) := by
  induction Qs generalizing i with
  | nil => simp at h
  | cons a r ih =>
    cases i with
    | zero =>
      simp only [List.getElem?_cons_zero, Option.some.injEq] at h
      subst h
      simp only [List.set_cons_zero, List.flatten_cons, List.append_assoc, List.singleton_append]
      exact List.perm_middle
    | succ i =>
      simp only [List.set_cons_succ, List.flatten_cons]
      exact ((ih (by simpa using h)).append_left a).trans List.perm_middle
theorem push_items {s : BkS} (h : bkWf s) (r : Nat) (p : Pk) : (bkItems (bkPush s r p)).Perm ((⟨r, p⟩ : It) :: bkItems s) := by
  cases s with
  | hp n S => exact (insE_perm ⟨r, n, p⟩ S).map itE
  | qu bs Qs =>
    obtain ⟨h1, h2⟩ := h
    have hi : atB bs r (bs.length - 1) < Qs.length := by have := atB_le bs r (bs.length - 1); omega
    show (pushQ bs Qs r ⟨r, p⟩).flatten.Perm _
    unfold pushQ
    have : Qs[atB bs r (bs.length - 1)]? = some (Qs.getD (atB bs r (bs.length - 1)) []) := by
      rw [List.getD_eq_getElem?_getD, List.getElem?_eq_getElem hi]; rfl
    exact set_flat_perm this _
theorem push_wf {s : BkS} (h : bkWf s) (r : Nat) (p : Pk) : bkWf (bkPush s r p) := by
  cases s with
  | hp n S => trivial
  | qu bs Qs =>
    obtain ⟨h1, h2⟩ := h
    refine ⟨?_, ?_⟩
    · show (pushB bs r).length = (pushQ bs Qs r ⟨r, p⟩).length
      rw [pushB_len]; unfold pushQ; rw [List.length_set]; exact h1
    · show 1 ≤ (pushB bs r).length
      rw [pushB_len]; exact h2
theorem pop_wf {s : BkS} (h : bkWf s) : bkWf (bkPop s) := by
  cases s with
  | hp n S => trivial
  | qu bs Qs =>
    obtain ⟨h1, h2⟩ := h
    refine ⟨?_, h2⟩
    show bs.length = (popQ Qs).length
    unfold popQ
    split
    · rw [List.length_set]; exact h1
    · exact h1
theorem push_n (s : BkS) (r : Nat) (p : Pk) : bkN (bkPush s r p) ≤ bkN s + 1 := by cases s <;> simp [bkPush, bkN]
theorem pop_n (s : BkS) : bkN (bkPop s) = bkN s := by cases s <;> rfl
theorem tot_items (bs : List Nat) (Qs : List (List It)) : (bkItems (.qu bs Qs)).length = totQ Qs := by
  show Qs.flatten.length = totQ Qs
  unfold totQ
  rw [List.length_flatten]
end Go.Proofs.YtjhghagmnkjpkaaGreat

namespace Go.Proofs.YtjhghagmnkjpkaaGreat
set_option linter.unusedVariables false
set_option linter.unusedSimpArgs false
open Go Go.RowKit Go.Shelf

def enC (c : CfR) (v : Value) : List Value := [.int .i64 c.rank, .int .i64 c.back, .int .i64 c.levels, .int .i64 c.queues, .int .i64 c.packets, .int .u64 c.bytes, .int .i64 c.share, .int .u64 c.mtu, .int .u64 c.rate, .int .u64 c.burst, v]
theorem enC_len (c : CfR) (v : Value) : (enC c v).length = 11 := rfl
theorem adm_caps {c : CfR} (h : c.packets < 1 ∨ 4096 < c.packets ∨ c.bytes = 0 ∨ c.share < 0 ∨ 16 < c.share) : admE c = 25 := by unfold admE; rw [if_pos h]
theorem adm_over {c : CfR} (h : ¬ (c.packets < 1 ∨ 4096 < c.packets ∨ c.bytes = 0 ∨ c.share < 0 ∨ 16 < c.share)) (h2 : 18446744073709551615 / 2 ^ c.share.toNat < c.bytes) : admE c = 25 := by unfold admE; rw [if_neg h, if_pos h2]
theorem adm_mtu {c : CfR} (h : ¬ (c.packets < 1 ∨ 4096 < c.packets ∨ c.bytes = 0 ∨ c.share < 0 ∨ 16 < c.share)) (h2 : ¬ 18446744073709551615 / 2 ^ c.share.toNat < c.bytes) (h3 : c.mtu < 1 ∨ 65535 < c.mtu) : admE c = 26 := by unfold admE; rw [if_neg h, if_neg h2, if_pos h3]
theorem adm_fl {c : CfR} (h : ¬ (c.packets < 1 ∨ 4096 < c.packets ∨ c.bytes = 0 ∨ c.share < 0 ∨ 16 < c.share)) (h2 : ¬ 18446744073709551615 / 2 ^ c.share.toNat < c.bytes) (h3 : ¬ (c.mtu < 1 ∨ 65535 < c.mtu)) : admE c = flowsE c.flows := by unfold admE; rw [if_neg h, if_neg h2, if_neg h3]
/-- What so many parts have at most. -/
def lim (s : Nat) : Nat := 18446744073709551615 / 2 ^ s
set_option maxRecDepth 100000 in
set_option maxHeartbeats 4000000 in
theorem gAdm (c : CfR) (hc : c.ok) (v : Value) (w : World) (h : Sl w v c.flows.length 5 (c.flows.flatMap enFl)) : Calls Tryz.prog 28 #[.agg (enC c v).toArray] w fun e w' => e = .returned (.int .i64 (admE c)) ∧ Kp none' w w' := by
  have GR := Lib.hid (fun W hs => gRank c.flows v W hs)
  have H1 := Lib.hid (@adm_caps c); have H2 := Lib.hid (@adm_over c); have H3 := Lib.hid (@adm_mtu c); have H4 := Lib.hid (@adm_fl c)
  have HS := Lib.hid h
  have b5 := hc.bytes; have b7 := hc.mtu
  unfold M64 at b5 b7
  obtain ⟨rk, bk, lv, qu, pk, bt, sh, mt, rt, bu, fl⟩ := c
  unfold enC
  simp only at GR H1 H2 H3 H4 HS b5 b7 ⊢
  clear h hc
  by_cases h1 : pk < 1
  · have HE := Lib.hid (H1.out (.inl h1))
    go_enter Tryz.func28, Tryz.ntmps28
    go_wp2
    go_ret
    exact ⟨by rw [HE.out]; rfl, (Kp.refl _ _).alloc _⟩
  · by_cases h2 : 4096 < pk
    · have HE := Lib.hid (H1.out (.inr (.inl h2)))
      go_enter Tryz.func28, Tryz.ntmps28
      go_wp2
      go_ret
      exact ⟨by rw [HE.out]; rfl, (Kp.refl _ _).alloc _⟩
    · by_cases h3 : bt = 0
      · have HE := Lib.hid (H1.out (.inr (.inr (.inl h3))))
        subst h3
        go_enter Tryz.func28, Tryz.ntmps28
        go_wp2
        go_ret
        exact ⟨by rw [HE.out]; rfl, (Kp.refl _ _).alloc _⟩
      · have h3b : ((bt : Int) == 0) = false := by rw [beq_eq_false_iff_ne]; omega
        by_cases h4 : sh < 0
        · have HE := Lib.hid (H1.out (.inr (.inr (.inr (.inl h4)))))
          clear h3
          go_enter Tryz.func28, Tryz.ntmps28
          go_wp2
          go_ret
          exact ⟨by rw [HE.out]; rfl, (Kp.refl _ _).alloc _⟩
        · by_cases h5 : 16 < sh
          · have HE := Lib.hid (H1.out (.inr (.inr (.inr (.inr h5)))))
            clear h3
            go_enter Tryz.func28, Tryz.ntmps28
            go_wp2
            go_ret
            exact ⟨by rw [HE.out]; rfl, (Kp.refl _ _).alloc _⟩
          · obtain ⟨s, rfl⟩ : ∃ s : Nat, sh = s := ⟨sh.toNat, by omega⟩
            have HN : Hid (¬ (pk < 1 ∨ 4096 < pk ∨ bt = 0 ∨ (s : Int) < 0 ∨ 16 < (s : Int))) := by show ¬ _; omega
            rw [Int.toNat_natCast] at H2 H3 H4
            have hs16 : s ≤ 16 := by omega
            clear h3
            have hl : (18446744073709551615 : Int) / 2 ^ s = (lim s : Nat) := by unfold lim; rw [Int.natCast_ediv, Int.natCast_pow]; rfl
            have hb0 := Blk.new w (enC ⟨rk, bk, lv, qu, pk, bt, s, mt, rt, bu, fl⟩ v) 48
            have hk0 := (Kp.refl none' w).alloc (.cells (enC ⟨rk, bk, lv, qu, pk, bt, s, mt, rt, bu, fl⟩ v).toArray 48)
            unfold enC at hb0 hk0
            have HL := Lib.hid hl; have HB0 := Lib.hid hb0; have HK0 := Lib.hid hk0
            clear hl hb0 hk0
            go_enter Tryz.func28, Tryz.ntmps28
            go_wp2
            go_quiet (fail)
            rw [HL.out]
            have hb1 := HB0.out.drewN nq
            have HK1 := Lib.hid (HK0.out.drewN nq)
            have c7 := hb1.cell 7 rfl
            have c10 := hb1.cell 10 rfl
            clear hb1 HB0 HK0
            generalize (w.alloc (.cells #[.int .i64 rk, .int .i64 bk, .int .i64 lv, .int .i64 qu, .int .i64 pk, .int .u64 bt, .int .i64 s, .int .u64 mt, .int .u64 rt, .int .u64 bu, v] 48)).drewN nq = w1 at *
            by_cases h6 : lim s < bt
            · have HE := Lib.hid (H2.out HN.out h6)
              have h6d : decide (((lim s : Nat) : Int) < (bt : Int)) = true := by rw [decide_eq_true_iff]; omega
              rw [h6d]
              clear h6d h6
              go_wp2
              go_ret
              exact ⟨by rw [HE.out]; rfl, HK1.out⟩
            · have h6d : decide (((lim s : Nat) : Int) < (bt : Int)) = false := by rw [decide_eq_false_iff_not]; omega
              have HL6 := Lib.hid h6
              rw [h6d]
              clear h6d h6
              by_cases h7 : mt < 1
              · have HE := Lib.hid (H3.out HN.out HL6.out (.inl h7))
                have h7i : (mt : Int) < 1 := by omega
                go_wp2
                go_ret
                exact ⟨by rw [HE.out]; rfl, HK1.out⟩
              · have h7i : ¬ (mt : Int) < 1 := by omega
                by_cases h8 : 65535 < mt
                · have HE := Lib.hid (H3.out HN.out HL6.out (.inr h8))
                  have h8i : (65535 : Int) < mt := by omega
                  clear h7
                  go_wp2
                  go_ret
                  exact ⟨by rw [HE.out]; rfl, HK1.out⟩
                · have HE := Lib.hid (H4.out HN.out HL6.out (by omega))
                  have h8i : ¬ (65535 : Int) < mt := by omega
                  clear h7 h8
                  go_wp2_with fail
                  refine (GR.out _ (HS.out.old HK1.out)).mono ?_
                  rintro e w2 ⟨⟨p, rfl⟩, k2⟩
                  have HK2 := Lib.hid (HK1.out.trans k2)
                  clear k2
                  go_wp2
                  go_ret
                  exact ⟨by rw [HE.out]; rfl, HK2.out⟩
theorem pow16 (s : Nat) (h : s ≤ 16) : 2 ^ s ≤ 65536 ∧ 0 < 2 ^ s := ⟨by have := Nat.pow_le_pow_right (show 0 < 2 by decide) h; exact this, Nat.pos_of_ne_zero (by intro e; simp at e)⟩
def pw2 (s : Nat) : Nat := 2 ^ s
theorem pw2_succ (s : Nat) : pw2 (s + 1) = pw2 s * 2 := by unfold pw2; rw [Nat.pow_succ]
end Go.Proofs.YtjhghagmnkjpkaaGreat
