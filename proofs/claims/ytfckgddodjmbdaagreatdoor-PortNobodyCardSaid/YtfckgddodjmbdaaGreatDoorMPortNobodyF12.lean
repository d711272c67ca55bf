/- A backend in plain Lean: what waits, in order; push, peek, pop (layer 26). -/
import Derived.Test.YtfckgddodjmbdaaGreatDoorMPortNobodyF4
import Derived.Test.YtfckgddodjmbdaaGreatDoorMPortNobodyF11
import Derived.Test.YtfckgddodjmbdaaGreatDoorMPortNobodyF8
import Derived.Test.YtfckgddodjmbdaaGreatDoorMPortNobodyF0
namespace Go.Proofs.YtfckgddodjmbdaaGreatDoor
set_option linter.unusedVariables false
set_option linter.unusedSimpArgs false
open Go Go.RowKit Go.Shelf

/-- A backend: a heap, or queues. -/
inductive BkS
  | hp (n : Nat) (S : List (En Pk))
  | qu (bs : List Nat) (Qs : List (List It))
def itE (e : En Pk) : It := ⟨e.rank, e.x⟩
def bkItems : BkS → List It
  | .hp _ S => S.map itE
  | .qu _ Qs => Qs.flatten
def bkPeek (s : BkS) : It × Bool := hdI (bkItems s)
def bkN : BkS → Nat
  | .hp n _ => n
  | .qu _ _ => 0
def bkPush : BkS → Nat → Pk → BkS
  | .hp n S, r, p => .hp (n + 1) (insE S ⟨r, n, p⟩)
  | .qu bs Qs, r, p => .qu (pushB bs r) (pushQ bs Qs r ⟨r, p⟩)
def popQ (Qs : List (List It)) : List (List It) := match fstQ Qs with
  | some i => Qs.set i (Qs.getD i []).tail
  | none => Qs
def bkPop : BkS → BkS
  | .hp n S => .hp n S.tail
  | .qu bs Qs => .qu bs (popQ Qs)
def bkWf : BkS → Prop
  | .hp _ _ => True
  | .qu bs Qs => bs.length = Qs.length ∧ 1 ≤ bs.length
theorem flat_head {Qs : List (List It)} {i : Nat} {q : It} {Q : List It} (h : Qs[i]? = some (q :: Q)) (h0 : ∀ j, j < i → Qs[j]? = some []) : Qs.flatten = q :: (Q ++ (Qs.drop (i + 1)).flatten) ∧ (Qs.set i Q).flatten = Q ++ (Qs.drop (i + 1)).flatten := by
  induction Qs generalizing i with
  | nil => simp at h
  | cons a r ih =>
    cases i with
    | zero =>
      simp only [List.getElem?_cons_zero, Option.some.injEq] at h
      subst h
      simp
    | succ i =>
      have ha : a = [] := by have := h0 0 (by omega); simpa using this
      subst ha
      obtain ⟨h1, h2⟩ := ih (i := i) (by simpa using h) (fun j hj => by have := h0 (j + 1) (by omega); simpa using this)
      simp only [List.flatten_cons, List.nil_append, List.set_cons_succ, List.drop_succ_cons]
      exact ⟨h1, h2⟩
theorem flat_nil {Qs : List (List It)} (h : fstQ Qs = none) : Qs.flatten = [] := by
  rw [List.flatten_eq_nil_iff]
  intro l hl
  obtain ⟨i, hi, rfl⟩ := List.getElem_of_mem hl
  have := fstQ_none h i hi
  rw [List.getElem?_eq_getElem hi] at this
  exact Option.some.inj this
theorem peek_qu (bs : List Nat) (Qs : List (List It)) : bkPeek (.qu bs Qs) = peekQ Qs := by
  show hdI Qs.flatten = _
  unfold peekQ
  cases h : fstQ Qs with
  | none => rw [flat_nil h]; rfl
  | some i =>
    obtain ⟨q, Q, h1, h2⟩ := fstQ_some h
    rw [(flat_head h1 h2).1]
    simp only [List.getD_eq_getElem?_getD, h1, Option.getD_some]
    rfl
theorem peek_hp (n : Nat) (S : List (En Pk)) : bkPeek (.hp n S) = ((⟨(peekH S).1.rank, (peekH S).1.x⟩ : It), (peekH S).2) := by
  cases S <;> rfl
theorem pop_items (s : BkS) : bkItems (bkPop s) = (bkItems s).tail := by
  cases s with
  | hp n S => cases S <;> rfl
  | qu bs Qs =>
    show (popQ Qs).flatten = Qs.flatten.tail
    unfold popQ
    cases h : fstQ Qs with
    | none => simp [flat_nil h]
    | some i =>
      obtain ⟨q, Q, h1, h2⟩ := fstQ_some h
      simp only [List.getD_eq_getElem?_getD, h1, Option.getD_some, List.tail_cons]
      rw [(flat_head h1 h2).1, (flat_head h1 h2).2, List.tail_cons]
theorem set_flat_perm {Qs : List (List It)} {i : Nat} {Q : List It} (h : Qs[i]? = some Q) (x : It) : (Qs.set i (Q ++ [x])).flatten.Perm (x :: Qs.flatten) := by
  induction Qs generalizing i with
  | nil => simp at h
  | cons a r ih =>
    cases i with
    | zero =>
      simp only [List.getElem?_cons_zero, Option.some.injEq] at h
      subst h
      simp only [List.set_cons_zero, List.flatten_cons, List.append_assoc, List.singleton_append]
      exact List.perm_middle
    | succ i =>
      simp only [List.set_cons_succ, List.flatten_cons]
      exact ((ih (by simpa using h)).append_left a).trans List.perm_middle
theorem push_items {s : BkS} (h : bkWf s) (r : Nat) (p : Pk) : (bkItems (bkPush s r p)).Perm ((⟨r, p⟩ : It) :: bkItems s) := by
  cases s with
  | hp n S => exact (insE_perm ⟨r, n, p⟩ S).map itE
  | qu bs Qs =>
    obtain ⟨h1, h2⟩ := h
    have hi : atB bs r (bs.length - 1) < Qs.length := by have := atB_le bs r (bs.length - 1); omega
    show (pushQ bs Qs r ⟨r, p⟩).flatten.Perm _
    unfold pushQ
    have : Qs[atB bs r (bs.length - 1)]? = some (Qs.getD (atB bs r (bs.length - 1)) []) := by
      rw [List.getD_eq_getElem?_getD, List.getElem?_eq_getElem hi]; rfl
    exact set_flat_perm this _
theorem push_wf {s : BkS} (h : bkWf s) (r : Nat) (p : Pk) : bkWf (bkPush s r p) := by
  cases s with
  | hp n S => trivial
  | qu bs Qs =>
    obtain ⟨h1, h2⟩ := h
    refine ⟨?_, ?_⟩
    · show (pushB bs r).length = (pushQ bs Qs r ⟨r, p⟩).length
      rw [pushB_len]; unfold pushQ; rw [List.length_set]; exact h1
    · show 1 ≤ (pushB bs r).length
      rw [pushB_len]; exact h2
theorem pop_wf {s : BkS} (h : bkWf s) : bkWf (bkPop s) := by
  cases s with
  | hp n S => trivial
  | qu bs Qs =>
    obtain ⟨h1, h2⟩ := h
    refine ⟨?_, h2⟩
    show bs.length = (popQ Qs).length
    unfold popQ
    split
    · rw [List.length_set]; exact h1
    · exact h1
theorem tot_items (bs : List Nat) (Qs : List (List It)) : (bkItems (.qu bs Qs)).length = totQ Qs := by
  show Qs.flatten.length = totQ Qs
  unfold totQ
  rw [List.length_flatten]
end Go.Proofs.YtfckgddodjmbdaaGreatDoor

namespace Go.Proofs.YtfckgddodjmbdaaGreatDoor
set_option linter.unusedVariables false
set_option linter.unusedSimpArgs false
open Go Go.RowKit Go.Shelf

def enC (c : CfR) (v : Value) : List Value := [.int .i64 c.rank, .int .i64 c.back, .int .i64 c.levels, .int .i64 c.queues, .int .i64 c.packets, .int .u64 c.bytes, .int .i64 c.share, .int .u64 c.mtu, .int .u64 c.rate, .int .u64 c.burst, v]
theorem adm_caps {c : CfR} (h : c.packets < 1 ∨ 4096 < c.packets ∨ c.bytes = 0 ∨ c.share < 0 ∨ 16 < c.share) : admE c = 25 := by unfold admE; rw [if_pos h]
theorem adm_over {c : CfR} (h : ¬ (c.packets < 1 ∨ 4096 < c.packets ∨ c.bytes = 0 ∨ c.share < 0 ∨ 16 < c.share)) (h2 : 18446744073709551615 / 2 ^ c.share.toNat < c.bytes) : admE c = 25 := by unfold admE; rw [if_neg h, if_pos h2]
theorem adm_mtu {c : CfR} (h : ¬ (c.packets < 1 ∨ 4096 < c.packets ∨ c.bytes = 0 ∨ c.share < 0 ∨ 16 < c.share)) (h2 : ¬ 18446744073709551615 / 2 ^ c.share.toNat < c.bytes) (h3 : c.mtu < 1 ∨ 65535 < c.mtu) : admE c = 26 := by unfold admE; rw [if_neg h, if_neg h2, if_pos h3]
theorem adm_fl {c : CfR} (h : ¬ (c.packets < 1 ∨ 4096 < c.packets ∨ c.bytes = 0 ∨ c.share < 0 ∨ 16 < c.share)) (h2 : ¬ 18446744073709551615 / 2 ^ c.share.toNat < c.bytes) (h3 : ¬ (c.mtu < 1 ∨ 65535 < c.mtu)) : admE c = flowsE c.flows := by unfold admE; rw [if_neg h, if_neg h2, if_neg h3]
/-- What so many parts have at most. -/
def lim (s : Nat) : Nat := 18446744073709551615 / 2 ^ s
set_option maxRecDepth 100000 in
set_option maxHeartbeats 4000000 in
theorem gAdm (c : CfR) (hc : c.ok) (v : Value) (w : World) (h : Sl w v c.flows.length 5 (c.flows.flatMap enFl)) : Calls Tryz.prog 109 #[.agg (enC c v).toArray] w fun e w' => e = .returned (.int .i64 (admE c)) ∧ Kp none' w w' := by
  have GR := Lib.hid (fun W hs => gRank c.flows v W hs)
  have H1 := Lib.hid (@adm_caps c); have H2 := Lib.hid (@adm_over c); have H3 := Lib.hid (@adm_mtu c); have H4 := Lib.hid (@adm_fl c)
  have HS := Lib.hid h
  have b5 := hc.bytes; have b7 := hc.mtu
  unfold M64 at b5 b7
  obtain ⟨rk, bk, lv, qu, pk, bt, sh, mt, rt, bu, fl⟩ := c
  unfold enC
  simp only at GR H1 H2 H3 H4 HS b5 b7 ⊢
  clear h hc
  by_cases h1 : pk < 1
  · have HE := Lib.hid (H1.out (.inl h1))
    go_enter Tryz.func109, Tryz.ntmps109
    go_wp2
    go_ret
    exact ⟨by rw [HE.out]; rfl, (Kp.refl _ _).alloc _⟩
  · by_cases h2 : 4096 < pk
    · have HE := Lib.hid (H1.out (.inr (.inl h2)))
      go_enter Tryz.func109, Tryz.ntmps109
      go_wp2
      go_ret
      exact ⟨by rw [HE.out]; rfl, (Kp.refl _ _).alloc _⟩
    · by_cases h3 : bt = 0
      · have HE := Lib.hid (H1.out (.inr (.inr (.inl h3))))
        subst h3
        go_enter Tryz.func109, Tryz.ntmps109
        go_wp2
        go_ret
        exact ⟨by rw [HE.out]; rfl, (Kp.refl _ _).alloc _⟩
      · have h3b : ((bt : Int) == 0) = false := by rw [beq_eq_false_iff_ne]; omega
        by_cases h4 : sh < 0
        · have HE := Lib.hid (H1.out (.inr (.inr (.inr (.inl h4)))))
          clear h3
          go_enter Tryz.func109, Tryz.ntmps109
          go_wp2
          go_ret
          exact ⟨by rw [HE.out]; rfl, (Kp.refl _ _).alloc _⟩
        · by_cases h5 : 16 < sh
          · have HE := Lib.hid (H1.out (.inr (.inr (.inr (.inr h5)))))
            clear h3
            go_enter Tryz.func109, Tryz.ntmps109
            go_wp2
            go_ret
            exact ⟨by rw [HE.out]; rfl, (Kp.refl _ _).alloc _⟩
          · obtain ⟨s, rfl⟩ : ∃ s : Nat, sh = s := ⟨sh.toNat, by omega⟩
            have HN : Hid (¬ (pk < 1 ∨ 4096 < pk ∨ bt = 0 ∨ (s : Int) < 0 ∨ 16 < (s : Int))) := by show ¬ _; omega
            rw [Int.toNat_natCast] at H2 H3 H4
            have hs16 : s ≤ 16 := by omega
            clear h3
            have hl : (18446744073709551615 : Int) / 2 ^ s = (lim s : Nat) := by unfold lim; rw [Int.natCast_ediv, Int.natCast_pow]; rfl
            have hb0 := Blk.new w (enC ⟨rk, bk, lv, qu, pk, bt, s, mt, rt, bu, fl⟩ v) 76
            have hk0 := (Kp.refl none' w).alloc (.cells (enC ⟨rk, bk, lv, qu, pk, bt, s, mt, rt, bu, fl⟩ v).toArray 76)
            unfold enC at hb0 hk0
            have HL := Lib.hid hl; have HB0 := Lib.hid hb0; have HK0 := Lib.hid hk0
            clear hl hb0 hk0
            go_enter Tryz.func109, Tryz.ntmps109
            go_wp2
            go_quiet (fail)
            rw [HL.out]
            have hb1 := HB0.out.drewN nq
            have HK1 := Lib.hid (HK0.out.drewN nq)
            have c7 := hb1.cell 7 rfl
            have c10 := hb1.cell 10 rfl
            clear hb1 HB0 HK0
            generalize (w.alloc (.cells #[.int .i64 rk, .int .i64 bk, .int .i64 lv, .int .i64 qu, .int .i64 pk, .int .u64 bt, .int .i64 s, .int .u64 mt, .int .u64 rt, .int .u64 bu, v] 76)).drewN nq = w1 at *
            by_cases h6 : lim s < bt
            · have HE := Lib.hid (H2.out HN.out h6)
              have h6d : decide (((lim s : Nat) : Int) < (bt : Int)) = true := by rw [decide_eq_true_iff]; omega
              rw [h6d]
              clear h6d h6
              go_wp2
              go_ret
              exact ⟨by rw [HE.out]; rfl, HK1.out⟩
            · have h6d : decide (((lim s : Nat) : Int) < (bt : Int)) = false := by rw [decide_eq_false_iff_not]; omega
              have HL6 := Lib.hid h6
              rw [h6d]
              clear h6d h6
              by_cases h7 : mt < 1
              · have HE := Lib.hid (H3.out HN.out HL6.out (.inl h7))
                have h7i : (mt : Int) < 1 := by omega
                go_wp2
                go_ret
                exact ⟨by rw [HE.out]; rfl, HK1.out⟩
              · have h7i : ¬ (mt : Int) < 1 := by omega
                by_cases h8 : 65535 < mt
                · have HE := Lib.hid (H3.out HN.out HL6.out (.inr h8))
                  have h8i : (65535 : Int) < mt := by omega
                  clear h7
                  go_wp2
                  go_ret
                  exact ⟨by rw [HE.out]; rfl, HK1.out⟩
                · have HE := Lib.hid (H4.out HN.out HL6.out (by omega))
                  have h8i : ¬ (65535 : Int) < mt := by omega
                  clear h7 h8
                  go_wp2_with fail
                  refine (GR.out _ (HS.out.old HK1.out)).mono ?_
                  rintro e w2 ⟨⟨p, rfl⟩, k2⟩
                  have HK2 := Lib.hid (HK1.out.trans k2)
                  clear k2
                  go_wp2
                  go_ret
                  exact ⟨by rw [HE.out]; rfl, HK2.out⟩
end Go.Proofs.YtfckgddodjmbdaaGreatDoor

namespace Go.Proofs.YtfckgddodjmbdaaGreatDoor
set_option linter.unusedVariables false
set_option linter.unusedSimpArgs false
open Go Go.RowKit Go.Shelf

def hpV (b : Nat) : Value := .iface 244 (.agg #[.pointer (some ⟨b, 0, none⟩)])
def quV (b : Nat) : Value := .iface 254 (.agg #[.pointer (some ⟨b, 0, none⟩)])
set_option maxRecDepth 100000 in
set_option maxHeartbeats 1000000 in
theorem madeH (c : CfR) (v : Value) (w : World) (hb : c.back = 1) (h1 : 1 ≤ c.packets) (h2 : c.packets ≤ 4096) :
    Calls Tryz.prog 84 #[.agg (enC c v).toArray] w fun e w' => ∃ b F, e = .returned (hpV b) ∧ Hp w' F b c.packets.toNat 0 [] ∧ (∀ b, F b → w.heap.size ≤ b) ∧ Kp none' w w' := by
  obtain ⟨rk, bk, lv, qu, pk, bt, sh, mt, rt, bu, fl⟩ := c
  simp only at hb h1 h2
  subst hb
  obtain ⟨p, rfl⟩ : ∃ p : Nat, pk = p := ⟨pk.toNat, by omega⟩
  have HN := Lib.hid (fun W => hpNew p (by omega) (by omega) W)
  have HB0 := Lib.hid (Blk.new w [.int .i64 rk, .int .i64 1, .int .i64 lv, .int .i64 qu, .int .i64 p, .int .u64 bt, .int .i64 sh, .int .u64 mt, .int .u64 rt, .int .u64 bu, v] 76)
  have HK0 := Lib.hid ((Kp.refl none' w).alloc (.cells #[.int .i64 rk, .int .i64 1, .int .i64 lv, .int .i64 qu, .int .i64 p, .int .u64 bt, .int .i64 sh, .int .u64 mt, .int .u64 rt, .int .u64 bu, v] 76))
  refine calls_post ?_
  intro PP HP
  simp only [enC] at *
  go_enter Tryz.func84, Tryz.ntmps84
  go_wp2_with fail
  refine (HN.out _).mono ?_
  rintro e w2 ⟨b, F, rfl, hp, hF, hk⟩
  have HH := Lib.hid hp
  have HF := Lib.hid hF
  have HK := Lib.hid (HK0.out.trans hk)
  clear hp hF hk
  go_wp2_with fail
  exact HP.out _ _ ⟨b, F, rfl, by simpa using HH.out, fun x hx => by have := HF.out x hx; have := HK0.out.size; omega, HK.out⟩
end Go.Proofs.YtfckgddodjmbdaaGreatDoor

namespace Go.Proofs.YtfckgddodjmbdaaGreatDoor
set_option linter.unusedVariables false
set_option linter.unusedSimpArgs false

/-- A place d behind another one, in a ring. -/
def ad (N a d : Nat) : Nat := if a + d < N then a + d else a + d - N
/-- How far behind. -/
def dst (N a b : Nat) : Nat := if a ≤ b then b - a else b + N - a
theorem ad_lt {N a d : Nat} (ha : a < N) (hd : d < N) : ad N a d < N := by unfold ad; split <;> omega
theorem ad_zero {N a : Nat} (ha : a < N) : ad N a 0 = a := by unfold ad; split <;> omega
theorem dst_lt {N a b : Nat} (ha : a < N) (hb : b < N) : dst N a b < N := by unfold dst; split <;> omega
theorem ad_dst {N a b : Nat} (ha : a < N) (hb : b < N) : ad N a (dst N a b) = b := by unfold ad dst; split <;> split <;> omega
theorem dst_ad {N a d : Nat} (ha : a < N) (hd : d < N) : dst N a (ad N a d) = d := by unfold ad dst; split <;> split <;> omega
theorem ad_inj {N a d e : Nat} (ha : a < N) (hd : d < N) (he : e < N) (h : ad N a d = ad N a e) : d = e := by
  have := congrArg (dst N a) h
  rwa [dst_ad ha hd, dst_ad ha he] at this
theorem ad_ad {N a d e : Nat} (ha : a < N) (h : d + e < N) : ad N (ad N a d) e = ad N a (d + e) := by unfold ad; split <;> split <;> split <;> omega
/-- A place behind the own one, of which another one on the way is known. -/
theorem ad_from {N a d e : Nat} (ha : a < N) (hde : d ≤ e) (he : e < N) : ad N (ad N a d) (e - d) = ad N a e := by rw [ad_ad ha (by omega), show d + (e - d) = e by omega]

section
variable {V : Type}
abbrev Slots (V : Type) := List (Option (Nat × V))
def tAt (S : Slots V) (i : Nat) : Option (Nat × V) := S.getD i none
theorem tAt_set (S : Slots V) (p i : Nat) (e : Option (Nat × V)) (hp : p < S.length) : tAt (S.set p e) i = if i = p then e else tAt S i := by
  unfold tAt
  by_cases h : i = p
  · subst h; rw [if_pos rfl, List.getD_eq_getElem?_getD, List.getElem?_set_self hp]; rfl
  · rw [if_neg h, List.getD_eq_getElem?_getD, List.getElem?_set_ne (fun x => h x.symm), List.getD_eq_getElem?_getD]

/-- No unused place lies between a number's own one and its place; none lies twice. -/
structure FInv (hm : Nat → Nat) (S : Slots V) : Prop where
  home : ∀ id, hm id < S.length
  path : ∀ i id x, i < S.length → tAt S i = some (id, x) → ∀ d, d < dst S.length (hm id) i → tAt S (ad S.length (hm id) d) ≠ none
  one : ∀ i j id x y, i < S.length → j < S.length → tAt S i = some (id, x) → tAt S j = some (id, y) → i = j
/-- Where a number is found: its place, or the unused one in which it would lie. -/
structure FAt (hm : Nat → Nat) (S : Slots V) (id d : Nat) : Prop where
  lt : d < S.length
  way : ∀ e, e < d → ∃ k x, tAt S (ad S.length (hm id) e) = some (k, x) ∧ k ≠ id
  fin : tAt S (ad S.length (hm id) d) = none ∨ ∃ x, tAt S (ad S.length (hm id) d) = some (id, x)
theorem FAt.none_there {hm : Nat → Nat} {S : Slots V} (h : FInv hm S) {id d : Nat} (f : FAt hm S id d) (hn : tAt S (ad S.length (hm id) d) = none) (i : Nat) (x : V) (hi : i < S.length) : tAt S i ≠ some (id, x) := by
  intro he
  have hp := h.path i id x hi he
  have hd := ad_dst (h.home id) hi
  have hl := dst_lt (h.home id) hi
  rcases Nat.lt_trichotomy d (dst S.length (hm id) i) with h1 | h1 | h1
  · exact hp d h1 hn
  · rw [h1, hd, he] at hn; cases hn
  · obtain ⟨k, y, h2, h3⟩ := f.way _ h1
    rw [hd, he] at h2
    simp only [Option.some.injEq, Prod.mk.injEq] at h2
    exact h3 h2.1.symm
theorem FAt.unique {hm : Nat → Nat} {S : Slots V} {id d e : Nat} (f : FAt hm S id d) (g : FAt hm S id e) : d = e := by
  rcases Nat.lt_trichotomy d e with h | h | h
  · obtain ⟨k, x, h1, h2⟩ := g.way d h
    rcases f.fin with h3 | ⟨y, h3⟩
    · rw [h3] at h1; cases h1
    · rw [h3] at h1; simp only [Option.some.injEq, Prod.mk.injEq] at h1; exact absurd h1.1.symm h2
  · exact h
  · obtain ⟨k, x, h1, h2⟩ := f.way e h
    rcases g.fin with h3 | ⟨y, h3⟩
    · rw [h3] at h1; cases h1
    · rw [h3] at h1; simp only [Option.some.injEq, Prod.mk.injEq] at h1; exact absurd h1.1.symm h2
theorem FInv.put {hm : Nat → Nat} {S : Slots V} (h : FInv hm S) {id d : Nat} (f : FAt hm S id d) (hn : tAt S (ad S.length (hm id) d) = none) (x : V) : FInv hm (S.set (ad S.length (hm id) d) (some (id, x))) := by
  have hp := ad_lt (h.home id) f.lt
  have hno := f.none_there h hn
  generalize hpp : ad S.length (hm id) d = p at *
  constructor
  · intro k; rw [List.length_set]; exact h.home k
  · intro i k y hi he e hlt
    rw [List.length_set] at hi hlt ⊢
    rw [tAt_set S p _ _ hp]
    split
    · simp
    · rename_i hne
      rw [tAt_set S p _ _ hp] at he
      split at he
      · rename_i hip
        simp only [Option.some.injEq, Prod.mk.injEq] at he
        obtain ⟨rfl, rfl⟩ := he
        subst hip
        rw [← hpp, dst_ad (h.home id) f.lt] at hlt
        obtain ⟨k, y, h2, _⟩ := f.way e hlt
        rw [h2]; simp
      · exact h.path i k y hi he e hlt
  · intro i j k y z hi hj hei hej
    rw [List.length_set] at hi hj
    rw [tAt_set S p _ _ hp] at hei hej
    split at hei
    · rename_i h1
      split at hej
      · rename_i h2; omega
      · simp only [Option.some.injEq, Prod.mk.injEq] at hei
        obtain ⟨rfl, rfl⟩ := hei
        exact absurd hej (hno j z hj)
    · split at hej
      · simp only [Option.some.injEq, Prod.mk.injEq] at hej
        obtain ⟨rfl, rfl⟩ := hej
        exact absurd hei (hno i y hi)
      · exact h.one i j k y z hi hj hei hej
/-- While a hole is closed: h: the hole; k: how far behind it one is; m: how far behind it the first unused place is. -/
structure DInv (hm : Nat → Nat) (C : Slots V) (h k m : Nat) : Prop where
  hh : h < C.length
  hk : 1 ≤ k
  km : k ≤ m
  mN : m < C.length
  hole : tAt C h = none
  used : ∀ r, 1 ≤ r → r < m → tAt C (ad C.length h r) ≠ none
  fin : tAt C (ad C.length h m) = none
  home : ∀ id, hm id < C.length
  path : ∀ i id x, i < C.length → tAt C i = some (id, x) → ∀ d, d < dst C.length (hm id) i → tAt C (ad C.length (hm id) d) ≠ none ∨ (ad C.length (hm id) d = h ∧ ∃ r, k ≤ r ∧ r < m ∧ i = ad C.length h r)
  one : ∀ i j id x y, i < C.length → j < C.length → tAt C i = some (id, x) → tAt C j = some (id, y) → i = j
theorem DInv.start {hm : Nat → Nat} {S : Slots V} (hS : FInv hm S) {h m id : Nat} {x : V} (hh : h < S.length) (he : tAt S h = some (id, x)) (hm1 : 1 ≤ m) (hmN : m < S.length) (hu : ∀ r, 1 ≤ r → r < m → tAt S (ad S.length h r) ≠ none) (hf : tAt S (ad S.length h m) = none) : DInv hm (S.set h none) h 1 m := by
  have hne : ∀ r, 1 ≤ r → r < S.length → ad S.length h r ≠ h := fun r h1 h2 e => by
    have := ad_inj (e := 0) hh h2 (by omega) (e.trans (ad_zero hh).symm)
    omega
  refine ⟨by rw [List.length_set]; exact hh, Nat.le_refl _, hm1, by rw [List.length_set]; exact hmN, by rw [tAt_set S h _ _ hh, if_pos rfl], ?_, ?_, by intro k; rw [List.length_set]; exact hS.home k, ?_, ?_⟩
  · intro r h1 h2
    rw [List.length_set, tAt_set S h _ _ hh, if_neg (hne r h1 (by omega))]
    exact hu r h1 h2
  · rw [List.length_set, tAt_set S h _ _ hh, if_neg (hne m hm1 hmN)]; exact hf
  · intro i k y hi hek d hd
    rw [List.length_set] at hi hd ⊢
    rw [tAt_set S h _ _ hh] at hek
    split at hek
    · cases hek
    · rename_i hih
      have hpath := hS.path i k y hi hek
      have hlt := dst_lt (hS.home k) hi
      have had := ad_dst (hS.home k) hi
      rw [tAt_set S h _ _ hh]
      by_cases hx : ad S.length (hm k) d = h
      · right
        refine ⟨hx, dst S.length (hm k) i - d, by omega, ?_, ?_⟩
        · refine Classical.byContradiction fun hc => ?_
          by_cases hq : d + m < dst S.length (hm k) i
          · have := hpath (d + m) hq
            rw [← ad_ad (hS.home k) (by omega), hx] at this
            exact this hf
          · have : d + m = dst S.length (hm k) i := by omega
            rw [← this, ← ad_ad (hS.home k) (by omega), hx] at had
            rw [had] at hf
            rw [hf] at hek; cases hek
        · have := ad_from (hS.home k) (Nat.le_of_lt hd) hlt
          rw [hx] at this
          rw [this, had]
      · left
        rw [if_neg hx]; exact hpath d hd
  · intro i j k y z hi hj hei hej
    rw [List.length_set] at hi hj
    rw [tAt_set S h _ _ hh] at hei hej
    split at hei
    · cases hei
    · split at hej
      · cases hej
      · exact hS.one i j k y z hi hj hei hej
/-- What lies there moves into the hole. -/
theorem DInv.move {hm : Nat → Nat} {C : Slots V} {h k m : Nat} (D : DInv hm C h k m) (hkm : k < m) {id : Nat} {x : V} (he : tAt C (ad C.length h k) = some (id, x)) (hge : k ≤ dst C.length (hm id) (ad C.length h k)) :
    DInv hm ((C.set h (some (id, x))).set (ad C.length h k) none) (ad C.length h k) 1 (m - k) := by
  have hkN : k < C.length := Nat.lt_trans hkm D.mN
  have hmN := D.mN
  have hk1 := D.hk
  have hne : ∀ r, 1 ≤ r → r < C.length → ad C.length h r ≠ h := fun r h1 h2 e => by
    have := ad_inj (e := 0) D.hh h2 (by omega) (e.trans (ad_zero D.hh).symm)
    omega
  obtain ⟨a, ha⟩ : ∃ a, ad C.length h k = a := ⟨_, rfl⟩
  have haN : a < C.length := by rw [← ha]; exact ad_lt D.hh hkN
  have hah : a ≠ h := by rw [← ha]; exact hne k D.hk hkN
  rw [ha] at he hge ⊢
  have hlen : ((C.set h (some (id, x))).set a none).length = C.length := by rw [List.length_set, List.length_set]
  have hT : ∀ i, tAt ((C.set h (some (id, x))).set a none) i = if i = a then none else if i = h then some (id, x) else tAt C i := by
    intro i
    rw [tAt_set _ a _ _ (by rw [List.length_set]; exact haN), tAt_set C h _ _ D.hh]
  have hadr : ∀ r, k + r < C.length → ad C.length a r = ad C.length h (k + r) := fun r hr => by rw [← ha]; exact ad_ad D.hh hr
  refine ⟨by rw [hlen]; exact haN, Nat.le_refl _, by omega, by rw [hlen]; omega, by rw [hT, if_pos rfl], ?_, ?_, by intro j; rw [hlen]; exact D.home j, ?_, ?_⟩
  · intro r h1 h2
    have e1 := hadr r (by omega)
    rw [hlen, hT, if_neg, if_neg, e1]
    · exact D.used (k + r) (by omega) (by omega)
    · rw [e1]; exact hne (k + r) (by omega) (by omega)
    · intro e
      rw [e1, ← ha] at e
      have := ad_inj D.hh (by omega) hkN e
      omega
  · have e1 := hadr (m - k) (by omega)
    rw [show k + (m - k) = m by omega] at e1
    rw [hlen, hT, e1, if_neg, if_neg]
    · exact D.fin
    · exact hne m (by omega) hmN
    · intro e
      rw [← ha] at e
      have := ad_inj D.hh hmN hkN e
      omega
  · intro i j y hi hej d hd
    rw [hlen] at hi hd ⊢
    rw [hT] at hej ⊢
    by_cases hia : i = a
    · rw [if_pos hia] at hej; cases hej
    rw [if_neg hia] at hej
    by_cases hih : i = h
    · -- the thing that has moved
      rw [if_pos hih] at hej
      simp only [Option.some.injEq, Prod.mk.injEq] at hej
      obtain ⟨rfl, rfl⟩ := hej
      subst hih
      left
      have hDa := dst_lt (D.home id) haN
      have hDh := dst_lt (D.home id) D.hh
      have hdd : dst C.length (hm id) i + k = dst C.length (hm id) a := by
        have e1 : ad C.length (hm id) (dst C.length (hm id) a - k) = i := by
          have e2 := ad_ad (e := k) (D.home id) (show dst C.length (hm id) a - k + k < C.length by omega)
          rw [show dst C.length (hm id) a - k + k = dst C.length (hm id) a by omega, ad_dst (D.home id) haN] at e2
          have e3 := ad_lt (D.home id) (show dst C.length (hm id) a - k < C.length by omega)
          have e4 : ad C.length (ad C.length (hm id) (dst C.length (hm id) a - k)) k = ad C.length i k := by rw [e2, ha]
          revert e4
          generalize ad C.length (hm id) (dst C.length (hm id) a - k) = q at e3 ⊢
          unfold ad
          split <;> split <;> omega
        have := dst_ad (D.home id) (show dst C.length (hm id) a - k < C.length by omega)
        rw [e1] at this
        omega
      have hne2 : ad C.length (hm id) d ≠ a := by
        intro e
        have := ad_inj (D.home id) (by omega) hDa (e.trans (ad_dst (D.home id) haN).symm)
        omega
      have hne3 : ad C.length (hm id) d ≠ i := by
        intro e
        have := ad_inj (D.home id) (by omega) hDh (e.trans (ad_dst (D.home id) D.hh).symm)
        omega
      rw [if_neg hne2, if_neg hne3]
      rcases D.path a id x haN he d (by omega) with h1 | ⟨h1, _⟩
      · exact h1
      · exact absurd h1 hne3
    rw [if_neg hih] at hej
    have hpath := D.path i j y hi hej
    have hlt := dst_lt (D.home j) hi
    have had := ad_dst (D.home j) hi
    by_cases hx : ad C.length (hm j) d = a
    · right
      refine ⟨hx, dst C.length (hm j) i - d, by omega, ?_, ?_⟩
      · refine Classical.byContradiction fun hc => ?_
        have hq2 : ad C.length a (m - k) = ad C.length h m := by rw [hadr (m - k) (by omega), show k + (m - k) = m by omega]
        have hfin := D.fin
        by_cases hq : d + (m - k) < dst C.length (hm j) i
        · rcases hpath (d + (m - k)) hq with h1 | ⟨h1, _⟩
          · rw [← ad_ad (D.home j) (by omega), hx, hq2] at h1
            exact h1 hfin
          · rw [← ad_ad (D.home j) (by omega), hx, hq2] at h1
            exact hne m (by omega) hmN h1
        · have : d + (m - k) = dst C.length (hm j) i := by omega
          rw [← this, ← ad_ad (D.home j) (by omega), hx, hq2] at had
          rw [had] at hfin
          rw [hfin] at hej; cases hej
      · have := ad_from (D.home j) (Nat.le_of_lt hd) hlt
        rw [hx] at this
        rw [this, had]
    · left
      rw [if_neg hx]
      by_cases hy : ad C.length (hm j) d = h
      · rw [if_pos hy]; simp
      · rw [if_neg hy]
        rcases hpath d hd with h1 | ⟨h1, _⟩
        · exact h1
        · exact absurd h1 hy
  · intro i j n y z hi hj hei hej
    rw [hlen] at hi hj
    rw [hT] at hei hej
    have key : ∀ i y, i < C.length → (if i = a then none else if i = h then some (id, x) else tAt C i) = some (n, y) → ∃ i', i' < C.length ∧ tAt C i' = some (n, y) ∧ (i' = i ∧ i ≠ h ∧ i ≠ a ∨ i' = a ∧ i = h) := by
      intro i y hi hz
      split at hz
      · cases hz
      · rename_i q1
        split at hz
        · rename_i q2
          simp only [Option.some.injEq, Prod.mk.injEq] at hz
          obtain ⟨rfl, rfl⟩ := hz
          exact ⟨a, haN, he, .inr ⟨rfl, q2⟩⟩
        · rename_i q2
          exact ⟨i, hi, hz, .inl ⟨rfl, q2, q1⟩⟩
    obtain ⟨i', a1, a2, a3⟩ := key i y hi hei
    obtain ⟨j', b1, b2, b3⟩ := key j z hj hej
    have := D.one i' j' n y z a1 b1 a2 b2
    rcases a3 with ⟨_, _, _⟩ | ⟨_, _⟩ <;> rcases b3 with ⟨_, _, _⟩ | ⟨_, _⟩ <;> omega
/-- Where the next place is not in use the hole stays a hole. -/
theorem DInv.done {hm : Nat → Nat} {C : Slots V} {h m : Nat} (D : DInv hm C h m m) : FInv hm C :=
  ⟨D.home, fun i id x hi he d hd => by
    rcases D.path i id x hi he d hd with h1 | ⟨_, r, h2, h3, _⟩
    · exact h1
    · omega, D.one⟩

/-- What lies in a table. -/
def entsF (S : Slots V) : List (Nat × V) := S.filterMap id
theorem ents_split (S : Slots V) (p : Nat) (hp : p < S.length) (e : Option (Nat × V)) : entsF (S.set p e) = (S.take p).filterMap id ++ e.toList ++ (S.drop (p + 1)).filterMap id := by
  unfold entsF
  rw [List.set_eq_take_append_cons_drop, if_pos hp, List.filterMap_append]
  cases e with
  | none => simp
  | some e => simp
theorem ents_self (S : Slots V) (p : Nat) (hp : p < S.length) : entsF S = (S.take p).filterMap id ++ (tAt S p).toList ++ (S.drop (p + 1)).filterMap id := by
  have h := ents_split S p hp S[p]
  rw [List.set_getElem_self] at h
  rw [h]
  unfold tAt
  rw [List.getD_eq_getElem?_getD, List.getElem?_eq_getElem hp]; rfl
theorem ents_put (S : Slots V) (p : Nat) (hp : p < S.length) (hn : tAt S p = none) (e : Nat × V) : (entsF (S.set p (some e))).Perm (e :: entsF S) := by
  rw [ents_split S p hp, ents_self S p hp, hn]
  simp only [Option.toList_some, Option.toList_none, List.append_nil, List.append_assoc, List.singleton_append]
  exact List.perm_middle
theorem ents_mem (S : Slots V) (e : Nat × V) : e ∈ entsF S ↔ ∃ i, i < S.length ∧ tAt S i = some e := by
  unfold entsF
  rw [List.mem_filterMap]
  constructor
  · rintro ⟨o, ho, he⟩
    obtain ⟨i, hi, rfl⟩ := List.mem_iff_getElem.1 ho
    exact ⟨i, hi, by unfold tAt; rw [List.getD_eq_getElem?_getD, List.getElem?_eq_getElem hi]; simpa using he⟩
  · rintro ⟨i, hi, he⟩
    unfold tAt at he
    rw [List.getD_eq_getElem?_getD, List.getElem?_eq_getElem hi] at he
    exact ⟨S[i], List.getElem_mem hi, by simpa using he⟩
theorem ents_len (S : Slots V) : (entsF S).length ≤ S.length := List.length_filterMap_le _ _
/-- There is an unused place. -/
theorem unused (S : Slots V) (h : (entsF S).length < S.length) : ∃ i, i < S.length ∧ tAt S i = none := by
  refine Classical.byContradiction fun hc => ?_
  have : (entsF S).length = S.length := by
    unfold entsF
    have hall : ∀ o ∈ S, ∃ e, o = some e := fun o ho => by
      obtain ⟨i, hi, rfl⟩ := List.mem_iff_getElem.1 ho
      cases ho' : S[i] with
      | none => exact absurd ⟨i, hi, by unfold tAt; rw [List.getD_eq_getElem?_getD, List.getElem?_eq_getElem hi, ho']; rfl⟩ hc
      | some e => exact ⟨e, rfl⟩
    clear h hc
    induction S with
    | nil => rfl
    | cons o r ih =>
      obtain ⟨e, rfl⟩ := hall o List.mem_cons_self
      simp only [List.filterMap_cons, id_eq, List.length_cons]
      rw [ih (fun o ho => hall o (List.mem_cons_of_mem _ ho))]
  omega
end
end Go.Proofs.YtfckgddodjmbdaaGreatDoor
