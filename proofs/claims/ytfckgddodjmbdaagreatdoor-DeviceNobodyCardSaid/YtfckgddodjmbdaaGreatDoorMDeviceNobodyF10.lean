/- What the backends do behind their interface (layer 26). Printed by wip/sha.py. -/
import Derived.Test.YtfckgddodjmbdaaGreatDoorMDeviceNobodyF4
import Derived.Test.YtfckgddodjmbdaaGreatDoorMDeviceNobodyF9
import Derived.Test.YtfckgddodjmbdaaGreatDoorMDeviceNobodyF6
namespace Go.Proofs.YtfckgddodjmbdaaGreatDoor
set_option linter.unusedVariables false
set_option linter.unusedSimpArgs false
open Go Go.RowKit Go.Shelf
set_option maxRecDepth 100000 in
set_option maxHeartbeats 1000000 in
theorem wPushH {Q : World → Prop} {w : World} {hb r fl id ln : Nat} (H : ∀ W, Kp none' w W → Calls Tryz.prog 188 #[.pointer (some ⟨hb, 0, none⟩), .int .u64 r, .agg #[.int .u32 fl, .int .u32 id, .int .u64 ln]] W fun e w' => (∃ x : Bool, e = .returned (.bool x)) ∧ Q w') :
    Calls Tryz.prog 185 #[.agg #[.pointer (some ⟨hb, 0, none⟩)], .int .u64 r, .agg #[.int .u32 fl, .int .u32 id, .int .u64 ln]] w fun e w' => e = .returned (.tuple #[]) ∧ Q w' := by
  have H := Lib.hid H
  have HK := Lib.hid (((Kp.refl none' w).alloc (.cells #[.pointer (some ⟨hb, 0, none⟩)] 244)).alloc (.cells #[.int .u32 fl, .int .u32 id, .int .u64 ln] 65))
  go_enter Tryz.func185, Tryz.ntmps185
  go_wp2_with fail
  refine (H.out _ HK.out).mono ?_
  rintro e w' ⟨⟨x, rfl⟩, hq⟩
  have HQ := Lib.hid hq
  clear hq
  go_wp2_with fail
  go_end0
  exact ⟨rfl, HQ.out⟩
set_option maxRecDepth 100000 in
set_option maxHeartbeats 1000000 in
theorem wPopH {Q : World → Prop} {w : World} {hb : Nat} (H : ∀ W, Kp none' w W → Calls Tryz.prog 187 #[.pointer (some ⟨hb, 0, none⟩)] W fun e w' => (∃ x y z, e = .returned (.tuple #[x, y, z])) ∧ Q w') :
    Calls Tryz.prog 184 #[.agg #[.pointer (some ⟨hb, 0, none⟩)]] w fun e w' => e = .returned (.tuple #[]) ∧ Q w' := by
  have H := Lib.hid H
  have HK := Lib.hid ((Kp.refl none' w).alloc (.cells #[.pointer (some ⟨hb, 0, none⟩)] 244))
  go_enter Tryz.func184, Tryz.ntmps184
  go_wp2_with fail
  refine (H.out _ HK.out).mono ?_
  rintro e w' ⟨⟨x, y, z, rfl⟩, hq⟩
  have HQ := Lib.hid hq
  clear hq
  go_wp2_with fail
  go_end0
  exact ⟨rfl, HQ.out⟩
set_option maxRecDepth 100000 in
set_option maxHeartbeats 1000000 in
theorem wPeekH {w : World} {hb r fl id ln : Nat} {is : Bool} (H : ∀ W, Kp none' w W → Calls Tryz.prog 186 #[.pointer (some ⟨hb, 0, none⟩)] W fun e w' => e = .returned (.tuple #[.int .u64 r, .agg #[.int .u32 fl, .int .u32 id, .int .u64 ln], .bool is]) ∧ Kp none' W w') :
    Calls Tryz.prog 183 #[.agg #[.pointer (some ⟨hb, 0, none⟩)]] w fun e w' => e = .returned (.tuple #[.int .u64 r, .agg #[.int .u32 fl, .int .u32 id, .int .u64 ln], .bool is]) ∧ Kp none' w w' := by
  have H := Lib.hid H
  have HK := Lib.hid (((Kp.refl none' w).alloc (.cells #[.pointer (some ⟨hb, 0, none⟩)] 244)).alloc (.cells #[.int .u32 0, .int .u32 0, .int .u64 0] 65))
  have HB : Hid (Blk ((w.alloc (.cells #[.pointer (some ⟨hb, 0, none⟩)] 244)).alloc (.cells #[.int .u32 0, .int .u32 0, .int .u64 0] 65)) (w.heap.size + 1) [.int .u32 0, .int .u32 0, .int .u64 0] 65) := Lib.hid (by
    have := Blk.new (w.alloc (.cells #[.pointer (some ⟨hb, 0, none⟩)] 244)) [.int .u32 0, .int .u32 0, .int .u64 0] 65
    simpa using this)
  go_enter Tryz.func183, Tryz.ntmps183
  go_wp2_with fail
  refine (H.out _ HK.out).mono ?_
  rintro e w2 ⟨rfl, hk2⟩
  have HB2 := Lib.hid (HB.out.kp hk2 (fun x => x))
  have HK2 := Lib.hid (HK.out.trans hk2)
  clear hk2
  have b0 := HB2.out.cell 0 rfl
  have b1 := HB2.out.cell 1 rfl
  have b2 := HB2.out.cell 2 rfl
  have bf := fun j => HB2.out.fz j
  go_wp2_with fail
  exact ret_mid (by exact rfl) ((((HB2.out.set 0 (.int .u32 (fl : Int))).set 1 (.int .u32 (id : Int))).set 2 (.int .u64 (ln : Int)))) _ Tryz.underlying65 rfl infoPk (by exact rfl) ⟨rfl, (((HK2.out.set (p := ⟨w.heap.size + 1, 0, none⟩) (.inr (Nat.le_succ _)) _).set (p := ⟨w.heap.size + 1, 1, none⟩) (.inr (Nat.le_succ _)) _).set (p := ⟨w.heap.size + 1, 2, none⟩) (.inr (Nat.le_succ _)) _)⟩
set_option maxRecDepth 100000 in
set_option maxHeartbeats 1000000 in
theorem wPushQ {Q : World → Prop} {w : World} {hb r fl id ln : Nat} (H : ∀ W, Kp none' w W → Calls Tryz.prog 228 #[.pointer (some ⟨hb, 0, none⟩), .int .u64 r, .agg #[.int .u32 fl, .int .u32 id, .int .u64 ln]] W fun e w' => (∃ x : Int, e = .returned (.tuple #[.int .i64 x, .bool true])) ∧ Q w') :
    Calls Tryz.prog 225 #[.agg #[.pointer (some ⟨hb, 0, none⟩)], .int .u64 r, .agg #[.int .u32 fl, .int .u32 id, .int .u64 ln]] w fun e w' => e = .returned (.tuple #[]) ∧ Q w' := by
  have H := Lib.hid H
  have HK := Lib.hid (((Kp.refl none' w).alloc (.cells #[.pointer (some ⟨hb, 0, none⟩)] 254)).alloc (.cells #[.int .u32 fl, .int .u32 id, .int .u64 ln] 65))
  go_enter Tryz.func225, Tryz.ntmps225
  go_wp2_with fail
  refine (H.out _ HK.out).mono ?_
  rintro e w' ⟨⟨x, rfl⟩, hq⟩
  have HQ := Lib.hid hq
  clear hq
  go_wp2_with fail
  go_end0
  exact ⟨rfl, HQ.out⟩
set_option maxRecDepth 100000 in
set_option maxHeartbeats 1000000 in
theorem wPopQ {Q : World → Prop} {w : World} {hb : Nat} (H : ∀ W, Kp none' w W → Calls Tryz.prog 227 #[.pointer (some ⟨hb, 0, none⟩)] W fun e w' => (∃ x y z, e = .returned (.tuple #[x, y, z])) ∧ Q w') :
    Calls Tryz.prog 224 #[.agg #[.pointer (some ⟨hb, 0, none⟩)]] w fun e w' => e = .returned (.tuple #[]) ∧ Q w' := by
  have H := Lib.hid H
  have HK := Lib.hid ((Kp.refl none' w).alloc (.cells #[.pointer (some ⟨hb, 0, none⟩)] 254))
  go_enter Tryz.func224, Tryz.ntmps224
  go_wp2_with fail
  refine (H.out _ HK.out).mono ?_
  rintro e w' ⟨⟨x, y, z, rfl⟩, hq⟩
  have HQ := Lib.hid hq
  clear hq
  go_wp2_with fail
  go_end0
  exact ⟨rfl, HQ.out⟩
set_option maxRecDepth 100000 in
set_option maxHeartbeats 1000000 in
theorem wPeekQ {w : World} {hb r fl id ln : Nat} {is : Bool} (H : ∀ W, Kp none' w W → Calls Tryz.prog 226 #[.pointer (some ⟨hb, 0, none⟩)] W fun e w' => e = .returned (.tuple #[.int .u64 r, .agg #[.int .u32 fl, .int .u32 id, .int .u64 ln], .bool is]) ∧ Kp none' W w') :
    Calls Tryz.prog 223 #[.agg #[.pointer (some ⟨hb, 0, none⟩)]] w fun e w' => e = .returned (.tuple #[.int .u64 r, .agg #[.int .u32 fl, .int .u32 id, .int .u64 ln], .bool is]) ∧ Kp none' w w' := by
  have H := Lib.hid H
  have HK := Lib.hid (((Kp.refl none' w).alloc (.cells #[.pointer (some ⟨hb, 0, none⟩)] 254)).alloc (.cells #[.int .u32 0, .int .u32 0, .int .u64 0] 65))
  have HB : Hid (Blk ((w.alloc (.cells #[.pointer (some ⟨hb, 0, none⟩)] 254)).alloc (.cells #[.int .u32 0, .int .u32 0, .int .u64 0] 65)) (w.heap.size + 1) [.int .u32 0, .int .u32 0, .int .u64 0] 65) := Lib.hid (by
    have := Blk.new (w.alloc (.cells #[.pointer (some ⟨hb, 0, none⟩)] 254)) [.int .u32 0, .int .u32 0, .int .u64 0] 65
    simpa using this)
  go_enter Tryz.func223, Tryz.ntmps223
  go_wp2_with fail
  refine (H.out _ HK.out).mono ?_
  rintro e w2 ⟨rfl, hk2⟩
  have HB2 := Lib.hid (HB.out.kp hk2 (fun x => x))
  have HK2 := Lib.hid (HK.out.trans hk2)
  clear hk2
  have b0 := HB2.out.cell 0 rfl
  have b1 := HB2.out.cell 1 rfl
  have b2 := HB2.out.cell 2 rfl
  have bf := fun j => HB2.out.fz j
  go_wp2_with fail
  exact ret_mid (by exact rfl) ((((HB2.out.set 0 (.int .u32 (fl : Int))).set 1 (.int .u32 (id : Int))).set 2 (.int .u64 (ln : Int)))) _ Tryz.underlying65 rfl infoPk (by exact rfl) ⟨rfl, (((HK2.out.set (p := ⟨w.heap.size + 1, 0, none⟩) (.inr (Nat.le_succ _)) _).set (p := ⟨w.heap.size + 1, 1, none⟩) (.inr (Nat.le_succ _)) _).set (p := ⟨w.heap.size + 1, 2, none⟩) (.inr (Nat.le_succ _)) _)⟩

inductive BkS
  | hp (n : Nat) (S : List (En Pk))
  | qu (bs : List Nat) (Qs : List (List It))
def itE (e : En Pk) : It := ⟨e.rank, e.x⟩
def bkItems : BkS → List It
  | .hp _ S => S.map itE
  | .qu _ Qs => Qs.flatten
def bkPeek (s : BkS) : It × Bool := hdI (bkItems s)
def bkN : BkS → Nat
  | .hp n _ => n
  | .qu _ _ => 0
def bkPush : BkS → Nat → Pk → BkS
  | .hp n S, r, p => .hp (n + 1) (insE S ⟨r, n, p⟩)
  | .qu bs Qs, r, p => .qu (pushB bs r) (pushQ bs Qs r ⟨r, p⟩)
def popQ (Qs : List (List It)) : List (List It) := match fstQ Qs with
  | some i => Qs.set i (Qs.getD i []).tail
  | none => Qs
def bkPop : BkS → BkS
  | .hp n S => .hp n S.tail
  | .qu bs Qs => .qu bs (popQ Qs)
def bkWf : BkS → Prop
  | .hp _ _ => True
  | .qu bs Qs => bs.length = Qs.length ∧ 1 ≤ bs.length
theorem flat_head {Qs : List (List It)} {i : Nat} {q : It} {Q : List It} (h : Qs[i]? = some (q :: Q)) (h0 : ∀ j, j < i → Qs[j]? = some []) : Qs.flatten = q :: (Q ++ (Qs.drop (i + 1)).flatten) ∧ (Qs.set i Q).flatten = Q ++ (Qs.drop (i + 1)).flatten := by
  induction Qs generalizing i with
  | nil => simp at h
  | cons a r ih =>
    cases i with
    | zero =>
      simp only [List.getElem?_cons_zero, Option.some.injEq] at h
      subst h
      simp
    | succ i =>
      have ha : a = [] := by have := h0 0 (by omega); simpa using this
      subst ha
      obtain ⟨h1, h2⟩ := ih (i := i) (by simpa using h) (fun j hj => by have := h0 (j + 1) (by omega); simpa using this)
      simp only [List.flatten_cons, List.nil_append, List.set_cons_succ, List.drop_succ_cons]
      exact ⟨h1, h2⟩
theorem flat_nil {Qs : List (List It)} (h : fstQ Qs = none) : Qs.flatten = [] := by
  rw [List.flatten_eq_nil_iff]
  intro l hl
  obtain ⟨i, hi, rfl⟩ := List.getElem_of_mem hl
  have := fstQ_none h i hi
  rw [List.getElem?_eq_getElem hi] at this
  exact Option.some.inj this
theorem peek_qu (bs : List Nat) (Qs : List (List It)) : bkPeek (.qu bs Qs) = peekQ Qs := by
  show hdI Qs.flatten = _
  unfold peekQ
  cases h : fstQ Qs with
  | none => rw [flat_nil h]; rfl
  | some i =>
    obtain ⟨q, Q, h1, h2⟩ := fstQ_some h
    rw [(flat_head h1 h2).1]
    simp only [List.getD_eq_getElem?_getD, h1, Option.getD_some]
    rfl
theorem peek_hp (n : Nat) (S : List (En Pk)) : bkPeek (.hp n S) = ((⟨(peekH S).1.rank, (peekH S).1.x⟩ : It), (peekH S).2) := by
  cases S <;> rfl
theorem pop_items (s : BkS) : bkItems (bkPop s) = (bkItems s).tail := by
  cases s with
  | hp n S => cases S <;> rfl
  | qu bs Qs =>
    show (popQ Qs).flatten = Qs.flatten.tail
    unfold popQ
    cases h : fstQ Qs with
    | none => simp [flat_nil h]
    | some i =>
      obtain ⟨q, Q, h1, h2⟩ := fstQ_some h
      simp only [List.getD_eq_getElem?_getD, h1, Option.getD_some, List.tail_cons]
      rw [(flat_head h1 h2).1, (flat_head h1 h2).2, List.tail_cons]
theorem set_flat_perm {Qs : List (List It)} {i : Nat} {Q : List It} (h : Qs[i]? = some Q) (x : It) : (Qs.set i (Q ++ [x])).flatten.Perm (x :: Qs.flatten) := by
  induction Qs generalizing i with
  | nil => simp at h
  | cons a r ih =>
    cases i with
    | zero =>
      simp only [List.getElem?_cons_zero, Option.some.injEq] at h
      subst h
      simp only [List.set_cons_zero, List.flatten_cons, List.append_assoc, List.singleton_append]
      exact List.perm_middle
    | succ i =>
      simp only [List.set_cons_succ, List.flatten_cons]
      exact ((ih (by simpa using h)).append_left a).trans List.perm_middle
theorem push_items {s : BkS} (h : bkWf s) (r : Nat) (p : Pk) : (bkItems (bkPush s r p)).Perm ((⟨r, p⟩ : It) :: bkItems s) := by
  cases s with
  | hp n S => exact (insE_perm ⟨r, n, p⟩ S).map itE
  | qu bs Qs =>
    obtain ⟨h1, h2⟩ := h
    have hi : atB bs r (bs.length - 1) < Qs.length := by have := atB_le bs r (bs.length - 1); omega
    show (pushQ bs Qs r ⟨r, p⟩).flatten.Perm _
    unfold pushQ
    have : Qs[atB bs r (bs.length - 1)]? = some (Qs.getD (atB bs r (bs.length - 1)) []) := by
      rw [List.getD_eq_getElem?_getD, List.getElem?_eq_getElem hi]; rfl
    exact set_flat_perm this _
theorem push_wf {s : BkS} (h : bkWf s) (r : Nat) (p : Pk) : bkWf (bkPush s r p) := by
  cases s with
  | hp n S => trivial
  | qu bs Qs =>
    obtain ⟨h1, h2⟩ := h
    refine ⟨?_, ?_⟩
    · show (pushB bs r).length = (pushQ bs Qs r ⟨r, p⟩).length
      rw [pushB_len]; unfold pushQ; rw [List.length_set]; exact h1
    · show 1 ≤ (pushB bs r).length
      rw [pushB_len]; exact h2
theorem pop_wf {s : BkS} (h : bkWf s) : bkWf (bkPop s) := by
  cases s with
  | hp n S => trivial
  | qu bs Qs =>
    obtain ⟨h1, h2⟩ := h
    refine ⟨?_, h2⟩
    show bs.length = (popQ Qs).length
    unfold popQ
    split
    · rw [List.length_set]; exact h1
    · exact h1
theorem tot_items (bs : List Nat) (Qs : List (List It)) : (bkItems (.qu bs Qs)).length = totQ Qs := by
  show Qs.flatten.length = totQ Qs
  unfold totQ
  rw [List.length_flatten]

def enC (c : CfR) (v : Value) : List Value := [.int .i64 c.rank, .int .i64 c.back, .int .i64 c.levels, .int .i64 c.queues, .int .i64 c.packets, .int .u64 c.bytes, .int .i64 c.share, .int .u64 c.mtu, .int .u64 c.rate, .int .u64 c.burst, v]
theorem adm_caps {c : CfR} (h : c.packets < 1 ∨ 4096 < c.packets ∨ c.bytes = 0 ∨ c.share < 0 ∨ 16 < c.share) : admE c = 25 := by unfold admE; rw [if_pos h]
theorem adm_over {c : CfR} (h : ¬ (c.packets < 1 ∨ 4096 < c.packets ∨ c.bytes = 0 ∨ c.share < 0 ∨ 16 < c.share)) (h2 : 18446744073709551615 / 2 ^ c.share.toNat < c.bytes) : admE c = 25 := by unfold admE; rw [if_neg h, if_pos h2]
theorem adm_mtu {c : CfR} (h : ¬ (c.packets < 1 ∨ 4096 < c.packets ∨ c.bytes = 0 ∨ c.share < 0 ∨ 16 < c.share)) (h2 : ¬ 18446744073709551615 / 2 ^ c.share.toNat < c.bytes) (h3 : c.mtu < 1 ∨ 65535 < c.mtu) : admE c = 26 := by unfold admE; rw [if_neg h, if_neg h2, if_pos h3]
theorem adm_fl {c : CfR} (h : ¬ (c.packets < 1 ∨ 4096 < c.packets ∨ c.bytes = 0 ∨ c.share < 0 ∨ 16 < c.share)) (h2 : ¬ 18446744073709551615 / 2 ^ c.share.toNat < c.bytes) (h3 : ¬ (c.mtu < 1 ∨ 65535 < c.mtu)) : admE c = flowsE c.flows := by unfold admE; rw [if_neg h, if_neg h2, if_neg h3]
def lim (s : Nat) : Nat := 18446744073709551615 / 2 ^ s
set_option maxRecDepth 100000 in
set_option maxHeartbeats 4000000 in
theorem gAdm (c : CfR) (hc : c.ok) (v : Value) (w : World) (h : Sl w v c.flows.length 5 (c.flows.flatMap enFl)) : Calls Tryz.prog 109 #[.agg (enC c v).toArray] w fun e w' => e = .returned (.int .i64 (admE c)) ∧ Kp none' w w' := by
  have GR := Lib.hid (fun W hs => gRank c.flows v W hs)
  have H1 := Lib.hid (@adm_caps c); have H2 := Lib.hid (@adm_over c); have H3 := Lib.hid (@adm_mtu c); have H4 := Lib.hid (@adm_fl c)
  have HS := Lib.hid h
  have b5 := hc.bytes; have b7 := hc.mtu
  unfold M64 at b5 b7
  obtain ⟨rk, bk, lv, qu, pk, bt, sh, mt, rt, bu, fl⟩ := c
  unfold enC
  simp only at GR H1 H2 H3 H4 HS b5 b7 ⊢
  clear h hc
  by_cases h1 : pk < 1
  · have HE := Lib.hid (H1.out (.inl h1))
    go_enter Tryz.func109, Tryz.ntmps109
    go_wp2
    go_ret
    exact ⟨by rw [HE.out]; rfl, (Kp.refl _ _).alloc _⟩
  · by_cases h2 : 4096 < pk
    · have HE := Lib.hid (H1.out (.inr (.inl h2)))
      go_enter Tryz.func109, Tryz.ntmps109
      go_wp2
      go_ret
      exact ⟨by rw [HE.out]; rfl, (Kp.refl _ _).alloc _⟩
    · by_cases h3 : bt = 0
      · have HE := Lib.hid (H1.out (.inr (.inr (.inl h3))))
        subst h3
        go_enter Tryz.func109, Tryz.ntmps109
        go_wp2
        go_ret
        exact ⟨by rw [HE.out]; rfl, (Kp.refl _ _).alloc _⟩
      · have h3b : ((bt : Int) == 0) = false := by rw [beq_eq_false_iff_ne]; omega
        by_cases h4 : sh < 0
        · have HE := Lib.hid (H1.out (.inr (.inr (.inr (.inl h4)))))
          clear h3
          go_enter Tryz.func109, Tryz.ntmps109
          go_wp2
          go_ret
          exact ⟨by rw [HE.out]; rfl, (Kp.refl _ _).alloc _⟩
        · by_cases h5 : 16 < sh
          · have HE := Lib.hid (H1.out (.inr (.inr (.inr (.inr h5)))))
            clear h3
            go_enter Tryz.func109, Tryz.ntmps109
            go_wp2
            go_ret
            exact ⟨by rw [HE.out]; rfl, (Kp.refl _ _).alloc _⟩
          · obtain ⟨s, rfl⟩ : ∃ s : Nat, sh = s := ⟨sh.toNat, by omega⟩
            have HN : Hid (¬ (pk < 1 ∨ 4096 < pk ∨ bt = 0 ∨ (s : Int) < 0 ∨ 16 < (s : Int))) := by show ¬ _; omega
            rw [Int.toNat_natCast] at H2 H3 H4
            have hs16 : s ≤ 16 := by omega
            clear h3
            have hl : (18446744073709551615 : Int) / 2 ^ s = (lim s : Nat) := by unfold lim; rw [Int.natCast_ediv, Int.natCast_pow]; rfl
            have hb0 := Blk.new w (enC ⟨rk, bk, lv, qu, pk, bt, s, mt, rt, bu, fl⟩ v) 76
            have hk0 := (Kp.refl none' w).alloc (.cells (enC ⟨rk, bk, lv, qu, pk, bt, s, mt, rt, bu, fl⟩ v).toArray 76)
            unfold enC at hb0 hk0
            have HL := Lib.hid hl; have HB0 := Lib.hid hb0; have HK0 := Lib.hid hk0
            clear hl hb0 hk0
            go_enter Tryz.func109, Tryz.ntmps109
            go_wp2
            go_quiet (fail)
            rw [HL.out]
            have hb1 := HB0.out.drewN nq
            have HK1 := Lib.hid (HK0.out.drewN nq)
            have c7 := hb1.cell 7 rfl
            have c10 := hb1.cell 10 rfl
            clear hb1 HB0 HK0
            generalize (w.alloc (.cells #[.int .i64 rk, .int .i64 bk, .int .i64 lv, .int .i64 qu, .int .i64 pk, .int .u64 bt, .int .i64 s, .int .u64 mt, .int .u64 rt, .int .u64 bu, v] 76)).drewN nq = w1 at *
            by_cases h6 : lim s < bt
            · have HE := Lib.hid (H2.out HN.out h6)
              have h6d : decide (((lim s : Nat) : Int) < (bt : Int)) = true := by rw [decide_eq_true_iff]; omega
              rw [h6d]
              clear h6d h6
              go_wp2
              go_ret
              exact ⟨by rw [HE.out]; rfl, HK1.out⟩
            · have h6d : decide (((lim s : Nat) : Int) < (bt : Int)) = false := by rw [decide_eq_false_iff_not]; omega
              have HL6 := Lib.hid h6
              rw [h6d]
              clear h6d h6
              by_cases h7 : mt < 1
              · have HE := Lib.hid (H3.out HN.out HL6.out (.inl h7))
                have h7i : (mt : Int) < 1 := by omega
                go_wp2
                go_ret
                exact ⟨by rw [HE.out]; rfl, HK1.out⟩
              · have h7i : ¬ (mt : Int) < 1 := by omega
                by_cases h8 : 65535 < mt
                · have HE := Lib.hid (H3.out HN.out HL6.out (.inr h8))
                  have h8i : (65535 : Int) < mt := by omega
                  clear h7
                  go_wp2
                  go_ret
                  exact ⟨by rw [HE.out]; rfl, HK1.out⟩
                · have HE := Lib.hid (H4.out HN.out HL6.out (by omega))
                  have h8i : ¬ (65535 : Int) < mt := by omega
                  clear h7 h8
                  go_wp2_with fail
                  refine (GR.out _ (HS.out.old HK1.out)).mono ?_
                  rintro e w2 ⟨⟨p, rfl⟩, k2⟩
                  have HK2 := Lib.hid (HK1.out.trans k2)
                  clear k2
                  go_wp2
                  go_ret
                  exact ⟨by rw [HE.out]; rfl, HK2.out⟩

def hpV (b : Nat) : Value := .iface 244 (.agg #[.pointer (some ⟨b, 0, none⟩)])
def quV (b : Nat) : Value := .iface 254 (.agg #[.pointer (some ⟨b, 0, none⟩)])
set_option maxRecDepth 100000 in
set_option maxHeartbeats 1000000 in
theorem madeH (c : CfR) (v : Value) (w : World) (hb : c.back = 1) (h1 : 1 ≤ c.packets) (h2 : c.packets ≤ 4096) :
    Calls Tryz.prog 84 #[.agg (enC c v).toArray] w fun e w' => ∃ b F, e = .returned (hpV b) ∧ Hp w' F b c.packets.toNat 0 [] ∧ (∀ b, F b → w.heap.size ≤ b) ∧ Kp none' w w' := by
  obtain ⟨rk, bk, lv, qu, pk, bt, sh, mt, rt, bu, fl⟩ := c
  simp only at hb h1 h2
  subst hb
  obtain ⟨p, rfl⟩ : ∃ p : Nat, pk = p := ⟨pk.toNat, by omega⟩
  have HN := Lib.hid (fun W => hpNew p (by omega) (by omega) W)
  have HB0 := Lib.hid (Blk.new w [.int .i64 rk, .int .i64 1, .int .i64 lv, .int .i64 qu, .int .i64 p, .int .u64 bt, .int .i64 sh, .int .u64 mt, .int .u64 rt, .int .u64 bu, v] 76)
  have HK0 := Lib.hid ((Kp.refl none' w).alloc (.cells #[.int .i64 rk, .int .i64 1, .int .i64 lv, .int .i64 qu, .int .i64 p, .int .u64 bt, .int .i64 sh, .int .u64 mt, .int .u64 rt, .int .u64 bu, v] 76))
  refine calls_post ?_
  intro PP HP
  simp only [enC] at *
  go_enter Tryz.func84, Tryz.ntmps84
  go_wp2_with fail
  refine (HN.out _).mono ?_
  rintro e w2 ⟨b, F, rfl, hp, hF, hk⟩
  have HH := Lib.hid hp
  have HF := Lib.hid hF
  have HK := Lib.hid (HK0.out.trans hk)
  clear hp hF hk
  go_wp2_with fail
  exact HP.out _ _ ⟨b, F, rfl, by simpa using HH.out, fun x hx => by have := HF.out x hx; have := HK0.out.size; omega, HK.out⟩
end Go.Proofs.YtfckgddodjmbdaaGreatDoor
