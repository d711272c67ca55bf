/- Walks of layer 4: fields of fixed sizes taken. -/
import Derived.Test.YthjapdjglifopaaWireX
import Derived.Laws.Bits64
namespace Go.Proofs.Ythjapdjglifopaa
set_option linter.unusedVariables false
set_option linter.unusedSimpArgs false
open Go.RowKit Go.Shelf

theorem num_take (s : ByteArray) (k : Nat) (h : k < s.size) : num ((bl s).take (k + 1)) = num ((bl s).take k) * 256 + s[k].toNat := by rw [take_bl1 s k h, num_snoc]
theorem num_take_lt (s : ByteArray) (k : Nat) : num ((bl s).take k) < 256 ^ k := by
  have h := num_lt ((bl s).take k)
  have h2 : ((bl s).take k).length ≤ k := List.length_take_le _ _
  exact Nat.lt_of_lt_of_le h (Nat.pow_le_pow_right (by decide) h2)
theorem or_low (n c : Nat) (hn : n < 72057594037927936) (hc : c < 256) : bits BinOp.or IntKind.u64 ((n : Int) * 256) (c : Int) = ((n * 256 + c : Nat) : Int) := by
  have h1 : n * 256 + c = n * 256 ||| c := by
    have := Nat.shiftLeft_add_eq_or_of_lt (i := 8) (b := c) (by simpa using hc) n
    rw [Nat.shiftLeft_eq] at this
    exact this
  have e1 : ((n : Int) * 256) = ((n * 256 : Nat) : Int) := by simp
  rw [h1, e1]
  exact bits_or_u64_nat _ c (by omega) (by omega)
set_option maxHeartbeats 1000000 in
theorem wFixed (s : ByteArray) (d : Nat) (h8 : d ≤ 8) (hs : d ≤ s.size) (hs2 : s.size ≤ 1000000) (w : World) : Calls Try.prog 85 #[.string s, .int .i64 d] w fun e w' => e = .returned (.tuple #[.int .u64 (num ((bl s).take d)), .int .i64 d, .int .i64 0]) ∧ w = w' := by
  have e1 : decide ((s.size : Int) < (d : Int)) = false := by rw [decide_eq_false_iff_not]; omega
  have e2 : decide (s.size < d) = false := by rw [decide_eq_false_iff_not]; omega
  go_enter Try.func85, Try.ntmps85
  go_wp2
  go_loop [7, 14] (fun n0 i => ∃ (j n : Nat), j ≤ d ∧ i = .int .i64 j ∧ n0 = .int .u64 n ∧ Hid (n = num ((bl s).take j))) (fun _ i => d - (intOf i).toNat)
  case atStart => exact ⟨0, 0, by omega, rfl, rfl, rfl⟩
  case round =>
    obtain ⟨j, n, hj, rfl, rfl, hn⟩ := hrel
    by_cases hlt : j < d
    · have hjs : j < s.size := by omega
      have hb := num_take_lt s j
      have hb2 : 256 ^ j ≤ 256 ^ 7 := Nat.pow_le_pow_right (by decide) (by omega)
      rw [← hn.out] at hb
      have hnb : (n : Int) < 72057594037927936 := by have : (256 : Nat) ^ 7 = 72057594037927936 := by decide
                                                     omega
      have hc := UInt8.toNat_lt s[j]
      have hor := Lib.hid (or_low n s[j].toNat (by omega) hc)
      have HN : Hid (n * 256 + s[j].toNat = num ((bl s).take (j + 1))) := by show _ = _; rw [num_take s j hjs, ← hn.out]
      clear hb hb2
      go_wp2
      rw [hor.out]
      refine ⟨⟨j + 1, n * 256 + s[j].toNat, by omega, by go_num, rfl, HN.out⟩, by simp [intOf]; omega⟩
    · have HN : Hid (n = num ((bl s).take d)) := by
        have : j = d := by omega
        subst this; exact hn.out
      go_wp2
      go_ret3
      exact ⟨by rw [← HN.out]; rfl, rfl⟩

theorem fld_ret {c k n d : Nat} {W w : World} {T : Array Value} (hb : Blk W c [.int .i64 k, .int .u64 n, .string ⟨#[]⟩] 109) (hk : Kp none' w W) (h2 : T[4]? = some (.pointer (some ⟨c, 0, none⟩))) (h3 : T[5]? = some (.int .i64 d)) (h4 : T[6]? = some (.int .i64 0)) :
    bodyPost Try.prog Try.f80 (fun e w' => e = .returned (.tuple #[.agg #[.int .i64 k, .int .u64 n, .string ⟨#[]⟩], .int .i64 d, .int .i64 0]) ∧ Kp none' w w') Exit.ret { tmps := T, defers := [] } W := by
  have c0 := hb.cell 0 rfl
  have c1 := hb.cell 1 rfl
  have c2 := hb.cell 2 rfl
  exact bodyPost_ret (v := .tuple #[.agg #[.int .i64 k, .int .u64 n, .string ⟨#[]⟩], .int .i64 d, .int .i64 0]) (by simp [results, Try.results80, go_sem, c0, c1, c2, h2, h3, h4]) rfl ⟨rfl, hk⟩
set_option maxHeartbeats 2000000 in
theorem wOne (s : ByteArray) (k : Nat) (h1 : 1 ≤ k) (h2 : k ≤ 4) (hs : widN k ≤ s.size) (hs2 : s.size ≤ 1000000) (w : World) :
    Calls Try.prog 80 #[.string s, .int .i64 k] w fun e w' => e = .returned (.tuple #[.agg #[.int .i64 k, .int .u64 (num ((bl s).take (widN k))), .string ⟨#[]⟩], .int .i64 (widN k), .int .i64 0]) ∧ Kp none' w w' := by
  have H1 := Lib.hid (fun W => wWidth k h1 h2 W)
  have H2 := Lib.hid (fun W => wFixed s (widN k) (widN_le k) hs hs2 W)
  have hw : 1 ≤ widN k ∧ widN k ≤ 8 := by rcases widN_cases h1 h2 with ⟨_, e⟩ | ⟨_, e⟩ | ⟨_, e⟩ | ⟨_, e⟩ <;> omega
  obtain ⟨d, hd⟩ : ∃ d, widN k = d := ⟨_, rfl⟩
  rw [hd] at H1 H2 hw ⊢
  obtain ⟨n, hn⟩ : ∃ n, num ((bl s).take d) = n := ⟨_, rfl⟩
  rw [hn] at H2 ⊢
  clear hd hn hs
  go_enter Try.func80, Try.ntmps80
  go_wp2_with fail
  refine (H1.out _).mono ?_
  rintro e w' ⟨rfl, rfl⟩
  go_wp2_with fail
  refine (H1.out _).mono ?_
  rintro e w' ⟨rfl, rfl⟩
  go_wp2_with fail
  refine (H2.out _).mono ?_
  rintro e w' ⟨rfl, rfl⟩
  go_wp2_with fail
  exact fld_ret ((Blk.new w [.int .i64 k, .int .u64 n, .string ⟨#[]⟩] 109).alloc _) (((Kp.refl _ _).alloc _).alloc _) rfl rfl rfl

def wids (l : List Nat) : Nat := (l.map widN).sum
def takeF (s : List UInt8) : List Nat → List (Nat × Nat)
  | [] => []
  | k :: ks => (k, num (s.take (widN k))) :: takeF (s.drop (widN k)) ks
theorem wids_snoc (l : List Nat) (k : Nat) : wids (l ++ [k]) = wids l + widN k := by simp [wids]
theorem takeF_snoc (l : List Nat) (k : Nat) : ∀ s, takeF s (l ++ [k]) = takeF s l ++ [(k, num ((s.drop (wids l)).take (widN k)))] := by
  induction l with
  | nil => intro s; simp [takeF, wids]
  | cons a l ih => intro s; simp [takeF, ih, wids, List.drop_drop]
theorem takeF_len (l : List Nat) : ∀ s, (takeF s l).length = l.length := by
  induction l with
  | nil => intro s; rfl
  | cons a l ih => intro s; simp [takeF, ih]
theorem wids_le (l : List Nat) (j : Nat) (h : j < l.length) : wids (l.take j) + widN l[j] ≤ wids l := by
  have e : l = l.take j ++ (l[j] :: l.drop (j + 1)) := by rw [← List.drop_eq_getElem_cons h, List.take_append_drop]
  have e2 : wids l = wids (l.take j) + (widN l[j] + wids (l.drop (j + 1))) := by
    conv => lhs; rw [e]
    unfold wids; rw [List.map_append, List.sum_append, List.map_cons, List.sum_cons]
  omega
theorem tFld : SlT Try.prog 126 109 (.agg #[.int .i64 0, .int .u64 0, .string ⟨#[]⟩]) 3 32 := ⟨Try.underlying126, by kernel_rfl, rfl, by decide⟩
def kinds (l : List Nat) : List Value := l.map fun (k : Nat) => Value.int .i64 (k : Int)
theorem kinds_get (l : List Nat) (j : Nat) (h : j < l.length) : (kinds l)[j]? = some (.int .i64 (l[j] : Int)) := by simp [kinds, h]
theorem heap_at (w : World) (o : Obj) (n : Nat) (h : n = w.heap.size) : (w.alloc o).heap[n]? = some o := by subst h; exact heap_new w o
set_option maxHeartbeats 2000000 in
theorem wTake (s : ByteArray) (l : List Nat) (hok : ∀ k ∈ l, 1 ≤ k ∧ k ≤ 4) (hs : wids l ≤ s.size) (hs2 : s.size ≤ 1000000) (hn : l.length ≤ 100) (v : Value) (w : World) (h : Sl w v l.length 1 (kinds l)) :
    Calls Try.prog 71 #[.string s, v] w fun e w' => ∃ r, e = .returned (.tuple #[r, .int .i64 (wids l), .int .i64 0]) ∧ w'.ownsRow w.heap.size 109 3 r l.length ((takeF (bl s) l).flatMap enF) ∧ Kp none' w w' := by
  obtain ⟨ao, cap, rfl⟩ : ∃ ao cap, v = .slice ao l.length cap := by obtain ⟨ao, cap, rfl, _⟩ := h.is; exact ⟨_, _, rfl⟩
  have HS := Lib.hid h
  have HL := Lib.hid hs
  clear h hs
  go_enter Try.func71, Try.ntmps71
  go_wp2_with fail
  go_loopw [7, 8, 16] (fun r a i wr => ∃ j d : Nat, i = .int .i64 j ∧ j ≤ l.length ∧ a = .int .i64 d ∧ d ≤ s.size ∧ Hid (wids (l.take j) = d ∧ wr.ownsRow w.heap.size 109 3 r j ((takeF (bl s) (l.take j)).flatMap enF) ∧ Kp none' w wr)) (fun _ _ i _ => l.length - (intOf i).toNat)
  case atStart => exact ⟨0, 0, rfl, by omega, rfl, by omega, rfl, World.ownsRow_nil _ _ _ _, Kp.refl _ _⟩
  case round =>
    obtain ⟨j, d, rfl, hj, rfl, hd, hr⟩ := hrel
    obtain ⟨r1, r2, r3⟩ := hr.out
    obtain ⟨ro, rcap, rfl⟩ := own_shape r2
    have hsz := r3.size
    have R1 := Lib.hid r1; have R2 := Lib.hid r2; have R3 := Lib.hid r3
    clear r1 r2 r3 hr
    by_cases hlt : j < l.length
    · obtain ⟨k, hk⟩ : ∃ k, l[j] = k := ⟨_, rfl⟩
      have hko := hok l[j] (List.getElem_mem hlt)
      have hle := wids_le l j hlt
      rw [R1.out, hk] at hle
      rw [hk] at hko
      have hHL := HL.out
      obtain ⟨ao', cap', e1, hc⟩ := (HS.out.old R3.out).is
      injection e1 with e1 _ e3
      subst e1 e3
      obtain ⟨g, off, rfl, c0⟩ := hc j (.int .i64 k) (by rw [← hk]; exact kinds_get l j hlt)
      have hx : bl (s.extract d s.size) = (bl s).drop d := by rw [bl_cut, List.take_of_length_le (by rw [List.length_drop, bl_len]; omega)]
      have hxs : (s.extract d s.size).size = s.size - d := by rw [← bl_len, hx, List.length_drop, bl_len]
      have hO := fun W => wOne (s.extract d s.size) k hko.1 hko.2 (by rw [hxs]; omega) (by rw [hxs]; omega) W
      rw [hx] at hO
      have HT : Hid (takeF (bl s) (l.take (j + 1)) = takeF (bl s) (l.take j) ++ [(k, num (((bl s).drop d).take (widN k)))] ∧ wids (l.take (j + 1)) = d + widN k) := by
        constructor
        · rw [List.take_succ_eq_append_getElem hlt, takeF_snoc, hk, R1.out]
        · rw [List.take_succ_eq_append_getElem hlt, wids_snoc, hk, R1.out]
      obtain ⟨n, hnn⟩ : ∃ n, num (((bl s).drop d).take (widN k)) = n := ⟨_, rfl⟩
      have hw8 := widN_le k
      obtain ⟨q, hq⟩ : ∃ q, widN k = q := ⟨_, rfl⟩
      rw [hnn, hq] at hO HT
      rw [hq] at hle hw8
      have HO := Lib.hid hO
      have hdq : ((d : Int) + q) ≤ 1000000 := by omega
      clear hc hk hO hnn hq hx hxs hko
      go_wp2_with fail
      refine (HO.out _).mono ?_
      rintro e w1 ⟨rfl, k1⟩
      have H1 := Lib.hid (own_kp (S := none') R2.out k1 (fun _ _ h => h))
      have K1 := Lib.hid (R3.out.trans k1)
      have hsz1 := K1.out.size
      clear k1
      go_wp2_with (at_builtin; refine wp_app1 tFld (.tmp 32) (.tmp 34) rfl rfl w.heap.size ((H1.out.alloc _).alloc _) (enF (k, n)) rfl rfl rfl (heap_at _ _ _ (by simp)) rfl (by omega) (by omega) (by simp; omega) ?_)
      intro g2 cap2 w2 hown hgrow
      have HG := Lib.hid hown
      have HK : Hid (Kp none' w w2) := ((K1.out.alloc _).alloc _).grown hgrow (fun b hb => .inr (by have := (own_block H1.out hb); omega))
      clear hown hgrow
      go_wp2_with fail
      go_roundw
      case rel => exact ⟨j + 1, d + q, by go_num, by omega, by go_num, by omega, HT.out.2, by rw [HT.out.1, List.flatMap_append]; simpa using HG.out, HK.out⟩
      case measure => simp [intOf]; omega
    · have HF : Hid (wids l = d ∧ wr.ownsRow w.heap.size 109 3 (.slice ro j rcap) l.length ((takeF (bl s) l).flatMap enF)) := by
        have hjl : j = l.length := by omega
        have h1 := R1.out
        have h2 := R2.out
        rw [List.take_of_length_le (by omega)] at h1 h2
        rw [hjl] at h2 ⊢
        exact ⟨h1, h2⟩
      go_wp2_with fail
      go_ret3
      exact ⟨_, by rw [HF.out.1]; rfl, HF.out.2, R3.out⟩
end Go.Proofs.Ythjapdjglifopaa
