/- What the document's functions for a set (pacemakerref08) and Same (pacemakerref06) compute: each once, over lists of ints. -/
import Derived.Test.YtoiiofcpohoeaaaDoorProg
import Derived.Test.YtoiiofcpohoeaaaDoorBase
import Derived.BigQuiet
import Derived.Deep.QuietTactic
namespace Go.Proofs.YtoiiofcpohoeaaaDoor
open Go.RowKit

theorem ti : SlT Tryd.prog 29 3 (.int .i64 0) 1 8 := ⟨Tryd.underlying29, by kernel_rfl, rfl, by decide⟩

theorem take_snoc' {α : Type} (l : List α) (k : Nat) (h : k < l.length) {y : α} (hy : l[k] = y) : l.take (k + 1) = l.take k ++ [y] := by
  rw [List.take_succ_eq_append_getElem h, hy]

set_option maxHeartbeats 400000 in
theorem r08Has (l : List Int) (v : Value) (x : Int) (w : World) (h : Sl w v l.length 1 (ints l)) :
    Calls Tryd.prog 9 #[v, .int .i64 x] w fun e w' => e = .returned (.bool (decide (x ∈ l))) ∧ w = w' := by
  obtain ⟨ao, cap, rfl, hc⟩ := h.is
  have hm := h.max
  clear h
  go_enter Tryd.func9, Tryd.ntmps9
  go_wp2
  go_loop [5] (fun i => ∃ k : Nat, k ≤ l.length ∧ i = .int .i64 k ∧ Hid (x ∉ l.take k)) (fun i => l.length - (intOf i).toNat)
  case atStart => exact ⟨0, Nat.zero_le _, rfl, by simp [Hid]⟩
  case round =>
    obtain ⟨k, hk, rfl, hno⟩ := hrel
    by_cases hlt : k < l.length
    · obtain ⟨b, off, rfl, hcell⟩ := hc k _ (ints_get l k hlt)
      obtain ⟨y, hy⟩ : ∃ y, l[k] = y := ⟨_, rfl⟩
      rw [hy] at hcell
      have HY := Lib.hid hy; clear hy
      clear hc
      by_cases hx : y = x
      · have hx' : (y == x) = true := by simpa using hx
        have HX := Lib.hid hx
        clear hx
        go_wp2
        go_ret
        exact ⟨ret_bool (by rw [← HX.out, ← HY.out]; simp), rfl⟩
      · have hx' : (y == x) = false := by simpa using hx
        have HX := Lib.hid hx
        clear hx
        go_wp2
        go_round
        case rel => exact ⟨k + 1, by omega, by go_num, by have := hno.out; have := HX.out; unfold Hid; rw [take_snoc' l k hlt HY.out]; simp; exact ⟨hno.out, fun e => HX.out e.symm⟩⟩
        case measure => simp [intOf]; omega
    · clear hc
      go_wp2
      go_ret
      exact ⟨ret_bool (by have := hno.out; rw [List.take_of_length_le (by omega)] at this; simp [this]), rfl⟩

def dropL (l : List Int) (x : Int) : List Int := l.filter (· != x)
theorem dropL_snoc (l : List Int) (x y : Int) : dropL (l ++ [y]) x = dropL l x ++ if y != x then [y] else [] := by
  simp [dropL, List.filter_append, List.filter_cons]

set_option maxHeartbeats 400000 in
theorem r08Drop (l : List Int) (v : Value) (x : Int) (w : World) (h : Sl w v l.length 1 (ints l)) (hlen : l.length ≤ 1000000000) :
    Calls Tryd.prog 11 #[v, .int .i64 x] w fun e w' => ∃ v', e = .returned v' ∧ w'.ownsRow w.heap.size 3 1 v' (dropL l x).length (ints (dropL l x)) ∧ Kp none' w w' := by
  obtain ⟨ao, cap, rfl, hc⟩ := h.is
  have hm := h.max
  have hbl : ∀ i, (dropL (l.take i) x).length ≤ 1000000000 := fun i => Nat.le_trans (List.length_filter_le _ _) (by simp; omega)
  go_enter Tryd.func11, Tryd.ntmps11
  go_wp2
  go_loopw [5, 6] (fun o i wr => ∃ k : Nat, k ≤ l.length ∧ i = .int .i64 k ∧ wr.ownsRow w.heap.size 3 1 o (dropL (l.take k) x).length (ints (dropL (l.take k) x)) ∧ Kp none' w wr) (fun _ i _ => l.length - (intOf i).toNat)
  case atStart => exact ⟨0, Nat.zero_le _, rfl, World.ownsRow_nil _ _ _ _, Kp.refl _ _⟩
  case round =>
    obtain ⟨k, hk, rfl, hown, hkp⟩ := hrel
    by_cases hlt : k < l.length
    · obtain ⟨b, off, rfl, hcell⟩ := hc k _ (ints_get l k hlt)
      obtain ⟨y, hy⟩ : ∃ y, l[k] = y := ⟨_, rfl⟩
      rw [hy] at hcell
      have HY := Lib.hid hy; clear hy
      clear hc h
      replace hcell := hkp.cell hcell id
      by_cases hx : y = x
      · have hx' : (y != x) = false := by simpa using hx
        have HX := Lib.hid hx
        clear hx
        go_wp2
        go_roundw
        case rel => exact ⟨k + 1, by omega, by go_num, by rw [take_snoc' l k hlt HY.out, dropL_snoc, HX.out]; simpa using hown, hkp⟩
        case measure => simp [intOf]; omega
      · have hx' : (y != x) = true := by simpa using hx
        have HX := Lib.hid hx
        clear hx
        go_wp2_with (at_builtin; refine wp_app1 ti (.tmp 19) (.tmp 24) rfl rfl w.heap.size (hown.alloc _) [.int .i64 y] rfl rfl rfl (heap_new _ _) rfl ?c1 ?c2 ?c3 ?_)
        case c1 => have := hbl k; omega
        case c2 => have := hbl k; omega
        case c3 => have := hkp.size; simp; omega
        intro g cap' w1 hown1 hgrow
        have hk1 : Kp none' w w1 := (hkp.alloc _).grown hgrow (fun k hk => .inr (own_block hown hk).1)
        go_wp2
        go_roundw
        case rel => exact ⟨k + 1, by omega, by go_num, by rw [take_snoc' l k hlt HY.out, dropL_snoc, if_pos (by simpa using HX.out), ints_snoc]; simpa using hown1, hk1⟩
        case measure => simp [intOf]; omega
    · clear hc
      go_wp2
      go_ret
      exact ⟨_, rfl, by rw [List.take_of_length_le (by omega)] at hown; exact hown, hkp⟩

/-- Rising numbers with one more. -/
def putL : List Int → Int → List Int
  | [], x => [x]
  | y :: r, x => if x < y then x :: y :: r else y :: putL r x
theorem putL_len (l : List Int) (x : Int) : (putL l x).length = l.length + 1 := by
  induction l with
  | nil => rfl
  | cons y r ih => unfold putL; split <;> simp [ih]
theorem putL_all (l : List Int) (x : Int) (h : ∀ y ∈ l, ¬ x < y) : putL l x = l ++ [x] := by
  induction l with
  | nil => rfl
  | cons y r ih => unfold putL; rw [if_neg (h y (by simp)), ih (fun z hz => h z (by simp [hz]))]; rfl
theorem putL_in (l : List Int) (x y : Int) (h : ∃ z ∈ l, x < z) : putL (l ++ [y]) x = putL l x ++ [y] := by
  induction l with
  | nil => obtain ⟨z, hz, _⟩ := h; simp at hz
  | cons a r ih =>
    simp only [List.cons_append, putL]
    split
    · simp
    · rw [ih]; · rfl
      obtain ⟨z, hz, hx⟩ := h
      rcases List.mem_cons.1 hz with rfl | hz
      · omega
      · exact ⟨z, hz, hx⟩
theorem putL_now (l : List Int) (x y : Int) (h : ∀ z ∈ l, ¬ x < z) (hx : x < y) : putL (l ++ [y]) x = l ++ [x] ++ [y] := by
  induction l with
  | nil => simp [putL, hx]
  | cons a r ih => simp only [List.cons_append, putL]; rw [if_neg (h a (by simp)), ih (fun z hz => h z (by simp [hz]))]

def PutInv (a : List Int) (x : Int) (p : Bool) (o : List Int) : Prop :=
  (p = false ∧ (∀ z ∈ a, ¬ x < z) ∧ o = a) ∨ (p = true ∧ (∃ z ∈ a, x < z) ∧ o = putL a x)
theorem PutInv.len {a : List Int} {x : Int} {p : Bool} {o : List Int} (h : PutInv a x p o) : o.length ≤ a.length + 1 := by
  rcases h with ⟨_, _, rfl⟩ | ⟨_, _, rfl⟩
  · omega
  · rw [putL_len]; omega
theorem PutInv.ins {a : List Int} {x y : Int} {o : List Int} (h : PutInv a x false o) (hx : x < y) : PutInv (a ++ [y]) x true (o ++ [x] ++ [y]) := by
  rcases h with ⟨_, h, rfl⟩ | ⟨h, _⟩
  · exact .inr ⟨rfl, ⟨y, by simp, hx⟩, (putL_now _ _ _ h hx).symm⟩
  · cases h
theorem PutInv.not {a : List Int} {x y : Int} {o : List Int} (h : PutInv a x false o) (hx : ¬ x < y) : PutInv (a ++ [y]) x false (o ++ [y]) := by
  rcases h with ⟨_, h, rfl⟩ | ⟨h, _⟩
  · refine .inl ⟨rfl, fun z hz => ?_, rfl⟩
    rcases List.mem_append.1 hz with hz | hz
    · exact h z hz
    · simp at hz; subst hz; exact hx
  · cases h
theorem PutInv.more {a : List Int} {x y : Int} {o : List Int} (h : PutInv a x true o) : PutInv (a ++ [y]) x true (o ++ [y]) := by
  rcases h with ⟨h, _⟩ | ⟨_, h, rfl⟩
  · cases h
  · obtain ⟨z, hz, hx⟩ := h
    exact .inr ⟨rfl, ⟨z, by simp [hz], hx⟩, (putL_in _ _ _ ⟨z, hz, hx⟩).symm⟩

set_option maxHeartbeats 1000000 in
theorem r08Put (l : List Int) (v : Value) (x : Int) (w : World) (h : Sl w v l.length 1 (ints l)) (hlen : l.length ≤ 1000000000) :
    Calls Tryd.prog 13 #[v, .int .i64 x] w fun e w' => ∃ v', e = .returned v' ∧ w'.ownsRow w.heap.size 3 1 v' (putL l x).length (ints (putL l x)) ∧ Kp none' w w' := by
  obtain ⟨ao, cap, rfl, hc⟩ := h.is
  have hm := h.max
  go_enter Tryd.func13, Tryd.ntmps13
  go_wp2
  go_loopw [5, 6, 7] (fun o p i wr => ∃ (k : Nat) (q : Bool) (ol : List Int), k ≤ l.length ∧ i = .int .i64 k ∧ p = .bool q ∧ Hid (PutInv (l.take k) x q ol) ∧ wr.ownsRow w.heap.size 3 1 o ol.length (ints ol) ∧ Kp none' w wr) (fun _ _ i _ => l.length - (intOf i).toNat)
  case atStart => exact ⟨0, false, [], Nat.zero_le _, rfl, rfl, .inl ⟨rfl, by simp, by simp⟩, World.ownsRow_nil _ _ _ _, Kp.refl _ _⟩
  case round =>
    obtain ⟨k, q, ol, hk, rfl, rfl, hinv, hown, hkp⟩ := hrel
    have hol : ol.length ≤ 1000000001 := by have := hinv.out.len; simp at this; omega
    have hsz := hkp.size
    by_cases hlt : k < l.length
    · obtain ⟨b, off, rfl, hcell⟩ := hc k _ (ints_get l k hlt)
      obtain ⟨y, hy⟩ : ∃ y, l[k] = y := ⟨_, rfl⟩
      rw [hy] at hcell
      have HY := Lib.hid hy; clear hy
      have hb0 : b < w.heap.size := World.block_lt_of_cell? w ⟨b, _, none⟩ hcell
      have hb : b < wr.heap.size := by omega
      clear hc h
      replace hcell := hkp.cell hcell id
      cases q
      · by_cases hx : x < y
        · go_wp2_with (at_builtin; refine wp_app1 ti (.tmp 24) (.tmp 26) rfl rfl w.heap.size (hown.alloc _) [.int .i64 x] rfl rfl rfl (heap_new _ _) rfl (by omega) (by omega) (by simp; omega) ?_)
          intro g cap' w1 hown1 hgrow
          have hk1 : Kp none' w w1 := (hkp.alloc _).grown hgrow (fun k hk => .inr (own_block hown hk).1)
          have hcell1 : w1.cell? ⟨b, off + k, none⟩ = some (.int .i64 y) := hgrow.cell (by rw [World.cell?_alloc_past _ _ _ hb]; exact hcell) (fun e => by have := (own_block hown (b := b) e.symm).1; omega)
          have hz1 := hk1.size
          go_wp2_with (at_builtin; refine wp_app1 ti (.tmp 28) (.tmp 33) rfl rfl w.heap.size (hown1.alloc _) [.int .i64 y] rfl rfl rfl (heap_new _ _) rfl (by omega) (by omega) (by simp; omega) ?_)
          intro g2 cap2 w2 hown2 hgrow2
          have hk2 : Kp none' w w2 := (hk1.alloc _).grown hgrow2 (fun k hk => .inr (own_block hown1 hk).1)
          go_wp2
          go_roundw
          case rel => exact ⟨k + 1, true, ol ++ [x] ++ [y], by omega, by go_num, rfl, by rw [take_snoc' l k hlt HY.out]; exact hinv.out.ins hx, by rw [ints_snoc, ints_snoc, List.length_append, List.length_append, List.append_assoc]; exact hown2, hk2⟩
          case measure => simp [intOf]; omega
        · go_wp2_with (at_builtin; refine wp_app1 ti (.tmp 28) (.tmp 33) rfl rfl w.heap.size (hown.alloc _) [.int .i64 y] rfl rfl rfl (heap_new _ _) rfl (by omega) (by omega) (by simp; omega) ?_)
          intro g cap' w1 hown1 hgrow
          have hk1 : Kp none' w w1 := (hkp.alloc _).grown hgrow (fun k hk => .inr (own_block hown hk).1)
          go_wp2
          go_roundw
          case rel => exact ⟨k + 1, false, ol ++ [y], by omega, by go_num, rfl, by rw [take_snoc' l k hlt HY.out]; exact hinv.out.not (by omega), by simpa [ints_snoc] using hown1, hk1⟩
          case measure => simp [intOf]; omega
      · go_wp2_with (at_builtin; refine wp_app1 ti (.tmp 28) (.tmp 33) rfl rfl w.heap.size (hown.alloc _) [.int .i64 y] rfl rfl rfl (heap_new _ _) rfl (by omega) (by omega) (by simp; omega) ?_)
        intro g cap' w1 hown1 hgrow
        have hk1 : Kp none' w w1 := (hkp.alloc _).grown hgrow (fun k hk => .inr (own_block hown hk).1)
        go_wp2
        go_roundw
        case rel => exact ⟨k + 1, true, ol ++ [y], by omega, by go_num, rfl, by rw [take_snoc' l k hlt HY.out]; exact hinv.out.more, by simpa [ints_snoc] using hown1, hk1⟩
        case measure => simp [intOf]; omega
    · clear hc
      have hinv' := hinv.out
      rw [List.take_of_length_le (by omega)] at hinv'
      cases q
      · have he : ol ++ [x] = putL l x := by
          rcases hinv' with ⟨_, h, rfl⟩ | ⟨h, _⟩
          · exact (putL_all _ _ h).symm
          · cases h
        clear hinv'
        have HE := Lib.hid he; clear he
        go_wp2_with (at_builtin; refine wp_app1 ti (.tmp 37) (.tmp 39) rfl rfl w.heap.size (hown.alloc _) [.int .i64 x] rfl rfl rfl (heap_new _ _) rfl (by omega) (by omega) (by simp; omega) ?_)
        intro g cap' w1 hown1 hgrow
        have hk1 : Kp none' w w1 := (hkp.alloc _).grown hgrow (fun k hk => .inr (own_block hown hk).1)
        go_wp2
        go_ret
        exact ⟨_, rfl, by rw [← HE.out, ints_snoc]; simpa using hown1, hk1⟩
      · have he : ol = putL l x := by
          rcases hinv' with ⟨h, _⟩ | ⟨_, _, h⟩
          · cases h
          · exact h
        clear hinv'
        have HE := Lib.hid he; clear he
        go_wp2
        go_ret
        exact ⟨_, rfl, by rw [← HE.out]; exact hown, hkp⟩

/-- The first number that is not below x; round about. -/
def fromL (l : List Int) (x : Int) : Int × Bool :=
  match l.find? (fun y => decide (x ≤ y)) with
  | some y => (y, true)
  | none => match l with
    | [] => (0, false)
    | y :: _ => (y, true)

set_option maxHeartbeats 400000 in
theorem r08From (l : List Int) (v : Value) (x : Int) (w : World) (h : Sl w v l.length 1 (ints l)) :
    Calls Tryd.prog 15 #[v, .int .i64 x] w fun e w' => e = .returned (.tuple #[.int .i64 (fromL l x).1, .bool (fromL l x).2]) ∧ w = w' := by
  obtain ⟨ao, cap, rfl, hc⟩ := h.is
  have hm := h.max
  clear h
  go_enter Tryd.func15, Tryd.ntmps15
  go_wp2
  go_loop [6] (fun i => ∃ k : Nat, k ≤ l.length ∧ i = .int .i64 k ∧ Hid (∀ z ∈ l.take k, ¬ x ≤ z)) (fun i => l.length - (intOf i).toNat)
  case atStart => exact ⟨0, Nat.zero_le _, rfl, by simp [Hid]⟩
  case round =>
    obtain ⟨k, hk, rfl, hno⟩ := hrel
    by_cases hlt : k < l.length
    · obtain ⟨b, off, rfl, hcell⟩ := hc k _ (ints_get l k hlt)
      obtain ⟨y, hy⟩ : ∃ y, l[k] = y := ⟨_, rfl⟩
      rw [hy] at hcell
      have HY := Lib.hid hy; clear hy
      clear hc
      by_cases hx : x ≤ y
      · have HF : Hid (fromL l x = (y, true)) := by
          have : l.find? (fun y => decide (x ≤ y)) = some y := by
            rw [List.find?_eq_some_iff_append]
            refine ⟨by simpa using hx, l.take k, l.drop (k + 1), ?_, fun z hz => by simpa using hno.out z hz⟩
            rw [← HY.out, ← List.drop_eq_getElem_cons hlt, List.take_append_drop]
          simp [Hid, fromL, this]
        go_wp2
        go_ret2
        exact ⟨by rw [HF.out]; rfl, rfl⟩
      · go_wp2
        go_round
        case rel => exact ⟨k + 1, by omega, by go_num, by have := hno.out; unfold Hid; rw [take_snoc' l k hlt HY.out]; simp only [List.mem_append, List.mem_singleton]; rintro z (hz | rfl); exact this z hz; exact hx⟩
        case measure => simp [intOf]; omega
    · have hf : l.find? (fun y => decide (x ≤ y)) = none := by
        have := hno.out
        rw [List.take_of_length_le (by omega)] at this
        simpa using this
      by_cases h0 : l.length = 0
      · have h0' : ((l.length : Int) == 0) = true := by simp [h0]
        have HF : Hid (fromL l x = (0, false)) := by
          have : l = [] := by simpa using h0
          subst this; simp [Hid, fromL]
        clear hf hc
        have H0 := Lib.hid h0; clear h0
        go_wp2
        go_ret2
        exact ⟨by rw [HF.out]; rfl, rfl⟩
      · have h0' : ((l.length : Int) == 0) = false := by simp; intro h; simp [h] at h0
        obtain ⟨b, off, rfl, hcell⟩ := hc 0 _ (ints_get l 0 (by omega))
        obtain ⟨y, hy⟩ : ∃ y, l[0]'(by omega) = y := ⟨_, rfl⟩
        rw [hy] at hcell
        have HF : Hid (fromL l x = (y, true)) := by
          cases l with
          | nil => simp at h0
          | cons a r => simp at hy; subst hy; simp only [Hid, fromL, hf]
        clear hf hc hy
        simp only [Nat.add_zero] at hcell
        have H0 : 0 < l.length := by omega
        clear h0
        go_wp2
        go_ret2
        exact ⟨by rw [HF.out]; rfl, rfl⟩

set_option maxHeartbeats 400000 in
theorem r06Same (l m : List Int) (v u : Value) (w : World) (h : Sl w v l.length 1 (ints l)) (g : Sl w u m.length 1 (ints m)) :
    Calls Tryd.prog 19 #[v, u] w fun e w' => e = .returned (.bool (decide (l = m))) ∧ Kp none' w w' := by
  obtain ⟨ao, cap, rfl, hc⟩ := h.is
  obtain ⟨ao2, cap2, rfl, hd⟩ := g.is
  have hm := h.max
  have hm2 := g.max
  clear h g
  by_cases hl : l.length = m.length
  · have hl' : ((l.length : Int) != m.length) = false := by simp [hl]
    have HL := Lib.hid hl; clear hl
    go_enter Tryd.func19, Tryd.ntmps19
    go_wp2
    go_loopw [5] (fun i wr => ∃ k : Nat, k ≤ l.length ∧ i = .int .i64 k ∧ Hid (l.take k = m.take k) ∧ Kp none' w wr) (fun i _ => l.length - (intOf i).toNat)
    case atStart => exact ⟨0, Nat.zero_le _, rfl, by simp [Hid], Kp.refl _ _⟩
    case round =>
      obtain ⟨k, hk, rfl, hno, hkp⟩ := hrel
      by_cases hlt : k < l.length
      · have hlt2 : k < m.length := by rw [← HL.out]; exact hlt
        obtain ⟨b, off, rfl, hcell⟩ := hc k _ (ints_get l k hlt)
        obtain ⟨b2, off2, rfl, hcell2⟩ := hd k _ (ints_get m k hlt2)
        obtain ⟨y, hy⟩ : ∃ y, l[k] = y := ⟨_, rfl⟩
        obtain ⟨z, hz⟩ : ∃ z, m[k] = z := ⟨_, rfl⟩
        rw [hy] at hcell
        rw [hz] at hcell2
        have HY := Lib.hid hy; clear hy
        have HZ := Lib.hid hz; clear hz
        clear hc hd
        replace hcell := hkp.cell hcell id
        replace hcell2 := hkp.cell hcell2 id
        by_cases hx : y = z
        · have hx' : (y != z) = false := by simpa using hx
          have HX := Lib.hid hx; clear hx
          go_wp2
          go_quiet (fail)
          go_wp2
          go_roundw
          case rel => exact ⟨k + 1, by omega, by go_num, by unfold Hid; rw [take_snoc' l k hlt HY.out, take_snoc' m k hlt2 HZ.out, hno.out, HX.out], hkp.drewN _⟩
          case measure => simp [intOf]; omega
        · have hx' : (y != z) = true := by simpa using hx
          have HX := Lib.hid hx; clear hx
          go_wp2
          go_quiet (fail)
          go_wp2
          go_ret
          exact ⟨ret_bool (by symm; rw [decide_eq_false_iff_not]; rintro rfl; exact HX.out (HY.out.symm.trans HZ.out)), hkp.drewN _⟩
      · clear hc hd
        go_wp2
        go_ret
        exact ⟨ret_bool (by have := hno.out; rw [List.take_of_length_le (by omega), List.take_of_length_le (by have := HL.out; omega)] at this; simp [this]), hkp⟩
  · have hl' : ((l.length : Int) != m.length) = true := by simp; omega
    have HL := Lib.hid hl; clear hl hc hd
    go_enter Tryd.func19, Tryd.ntmps19
    go_wp2
    go_ret
    exact ⟨ret_bool (by symm; rw [decide_eq_false_iff_not]; rintro rfl; exact HL.out rfl), Kp.refl _ _⟩

end Go.Proofs.YtoiiofcpohoeaaaDoor
