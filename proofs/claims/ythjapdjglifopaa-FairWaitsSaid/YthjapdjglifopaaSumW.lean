/- Walks of layer 5: the sum of bytes, sealed and opened, the program's and the document's. -/
import Derived.Test.YthjapdjglifopaaTrP
import Derived.Test.YthjapdjglifopaaBuild
import Derived.Deep.QuietTactic
import Derived.BigQuiet
namespace Go.Proofs.Ythjapdjglifopaa
set_option linter.unusedVariables false
set_option linter.unusedSimpArgs false
open Go.RowKit Go.Shelf

theorem ret_u32 {a b : Nat} (h : a = b) : Ending.returned (.int .u32 a) = .returned (.int .u32 b) := by rw [h]
theorem take_bl1 (s : ByteArray) (k : Nat) (h : k < s.size) : (bl s).take (k + 1) = (bl s).take k ++ [s[k]] := by
  rw [List.take_succ_eq_append_getElem (by rw [bl_len]; exact h), bl_get s k h]
theorem take_all (s : ByteArray) {k : Nat} (h : ¬ k < s.size) : (bl s).take k = bl s := List.take_of_length_le (by rw [bl_len]; omega)
/-- A step of the sum, in Int. -/
theorem ad_int (p : Nat × Nat) (c : UInt8) : ((ad p c).1 : Int) = ((p.1 : Int) + (c.toNat : Int)) % 65521 ∧ ((ad p c).2 : Int) = ((p.2 : Int) + ((p.1 : Int) + (c.toNat : Int)) % 65521) % 65521 := by
  unfold ad; constructor <;> simp

set_option maxHeartbeats 1000000 in
theorem sMore (s : ByteArray) (hs : s.size ≤ 1000000) (w : World) : Calls Try.prog 77 #[.int .u32 1, .string s] w fun e w' => e = .returned (.int .u32 (sumN (bl s))) ∧ w = w' := by
  go_enter Try.func77, Try.ntmps77
  go_wp2
  go_loop [5, 6, 16] (fun a b i => ∃ k : Nat, k ≤ s.size ∧ i = .int .i64 k ∧ ∃ x y : Nat, a = .int .u32 x ∧ b = .int .u32 y ∧ x < 65521 ∧ y < 65521 ∧ Hid (adl (1, 0) ((bl s).take k) = (x, y))) (fun _ _ i => s.size - (intOf i).toNat)
  case atStart => exact ⟨0, by omega, rfl, 1, 0, rfl, rfl, by omega, by omega, rfl⟩
  case round =>
    obtain ⟨k, hk, rfl, x, y, rfl, rfl, hx, hy, hp⟩ := hrel
    by_cases hlt : k < s.size
    · have hc := UInt8.toNat_lt s[k]
      obtain ⟨h1, h2⟩ := ad_int (x, y) s[k]
      have HP : Hid (adl (1, 0) ((bl s).take (k + 1)) = ad (x, y) s[k]) := by show _ = _; rw [take_bl1 s k hlt, adl_snoc, hp.out]
      have H1 := Lib.hid h1; have H2 := Lib.hid h2
      clear h1 h2
      go_wp2
      go_round
      case rel =>
        have l1 : (ad (x, y) s[k]).1 < 65521 := Nat.mod_lt _ (by decide)
        have l2 : (ad (x, y) s[k]).2 < 65521 := Nat.mod_lt _ (by decide)
        exact ⟨k + 1, by omega, by go_num, (ad (x, y) s[k]).1, (ad (x, y) s[k]).2, by rw [H1.out], by rw [H2.out], l1, l2, HP.out⟩
      case measure => simp [intOf]; omega
    · have HP : Hid (sumN (bl s) = y * 65536 + x) := by show _ = _; unfold sumN; rw [← take_all s hlt, hp.out]
      go_wp2
      go_ret
      have e : (y : Int) * 65536 + (x : Int) = ((sumN (bl s) : Nat) : Int) := by rw [HP.out]; simp
      exact ⟨ret_int e, rfl⟩

theorem sumN_wrap (l : List UInt8) : (sumN l : Int) < 4294967296 := by have := sumN_lt l; omega
set_option maxHeartbeats 1000000 in
theorem sOf (s : ByteArray) (hs : s.size ≤ 1000000) (w : World) (b : Nat) (hb : w.cell? ⟨b, 0, none⟩ = some (.string s)) : Calls Try.prog 67 #[.slice (some ⟨b, 0, none⟩) 1 1] w fun e w' => e = .returned (.int .u32 (sumN (bl s))) ∧ w = w' := by
  have H1 := Lib.hid (sMore s hs)
  go_enter Try.func67, Try.ntmps67
  go_wp2_with fail
  refine wp_loop_rounds 2 ?_
  rw [rounds_succ]
  go_wp2_with fail
  refine (H1.out _).mono ?_
  rintro e w' ⟨rfl, rfl⟩
  go_wp2_with fail
  rw [rounds_succ]
  go_wp2_with fail
  go_ret
  exact ⟨rfl, rfl⟩

/-- The cells of bytes. -/
def u8s (l : List UInt8) : List Value := l.map fun c => .int .u8 (c.toNat : Int)
theorem str_nums (l : List UInt8) : strOfNums (l.map fun c => (c.toNat : Int)) = tx l := by
  apply str_ext
  rw [bl_tx]
  show (strOfNums _).data.toList = l
  rw [strOfNums_data, List.map_map]
  conv => rhs; rw [← List.map_id l]
  apply List.map_congr_left
  intro c _
  simp
/-- A part of a block of bytes made a text. -/
theorem conv_u8s {P : Program} (src e dst : TypeId) (hs : P.underlying src = some (.slice e)) (he : P.underlying e = some (.int .u8)) (hd : P.underlying dst = some .string) {w : World} {b off n cap : Nat} {C : List Value} {T : TypeId} (hb : Blk w b C T) (l : List UInt8) (hl : C.drop off = u8s l) (hn : l.length = n) :
    (convert src dst (.slice (some ⟨b, off, none⟩) n cap)).run P w = .ok (.string (tx l)) w := by
  have h := run_convert_bytes_arg (P := P) w src e hs he b off n cap (l.map fun c => (c.toNat : Int)) (by simp [hn]) (fun i hi => by
    have h1 : (C.drop off)[i]? = some (.int .u8 (l[i]'(by omega)).toNat) := by rw [hl]; simp [u8s, hn ▸ hi]
    rw [List.getElem?_drop] at h1
    rw [hb.cell _ h1]
    simp [List.getD, hn ▸ hi]) dst hd
  rw [h, str_nums]

theorem cat_run {P : Program} (a b : ByteArray) (h : a.size + b.size ≤ 1000000) (W : World) : (Op.stringOp .add a b).run P W = .ok (.string (a ++ b)) W := run_string_add_sum W a b (by omega)
theorem bl_app (a b : ByteArray) : bl (a ++ b) = bl a ++ bl b := by simp [bl]
theorem byte_of (n : Nat) : ((UInt8.ofNat (n % 256)).toNat : Int) = (n : Int) % 256 := by simp
theorem be4_cells (n : Nat) (h : (n : Int) < 4294967296) : u8s (be 4 n) = [.int .u8 ((n : Int) / 16777216), .int .u8 ((n : Int) / 65536 % 256), .int .u8 ((n : Int) / 256 % 256), .int .u8 ((n : Int) % 256)] := by
  simp only [be, u8s, List.nil_append, List.map_append, List.map_cons, List.map_nil, byte_of, List.cons_append]
  have e1 : ((n / 256 / 256 / 256 : Nat) : Int) % 256 = (n : Int) / 16777216 := by omega
  have e2 : ((n / 256 / 256 : Nat) : Int) % 256 = (n : Int) / 65536 % 256 := by omega
  have e3 : ((n / 256 : Nat) : Int) % 256 = (n : Int) / 256 % 256 := by omega
  rw [e1, e2, e3]
theorem seal_str (s : ByteArray) (n : Nat) (h : sumN (bl s) = n) : s ++ tx (be 4 n) = tx (sealL (bl s)) := by
  apply str_ext
  rw [bl_app, bl_tx, bl_tx, sealL, h]
theorem ret_strs {a b : ByteArray} (h : a = b) : Ending.returned (.string a) = .returned (.string b) := by rw [h]

set_option maxRecDepth 100000 in
set_option maxHeartbeats 1000000 in
theorem sSeal (s : ByteArray) (hs : s.size ≤ 900000) (w : World) : Calls Try.prog 51 #[.string s] w fun e w' => e = .returned (.string (tx (sealL (bl s)))) ∧ Kp none' w w' := by
  have H1 := Lib.hid (fun W b h => sOf s (by omega) W b h)
  have hc : (w.alloc (.cells #[.string s] 9)).cell? ⟨w.heap.size, 0, none⟩ = some (.string s) := by simp
  have hn := sumN_wrap (bl s)
  have HC := Lib.hid hc
  clear hc
  go_enter Try.func51, Try.ntmps51
  go_wp2_with fail
  refine (H1.out _ _ HC.out).mono ?_
  rintro e w' ⟨rfl, rfl⟩
  obtain ⟨n, hN⟩ : ∃ n, sumN (bl s) = n := ⟨_, rfl⟩
  rw [hN] at hn ⊢
  have HR := Lib.hid (seal_str s n hN)
  have hcv := conv_u8s (P := Try.prog) 104 5 9 Try.underlying104 Try.underlying5 Try.underlying9 (w := (w.alloc (.cells #[.string s] 9)).alloc (.cells #[.int .u8 ((n : Int) / 16777216), .int .u8 ((n : Int) / 65536 % 256), .int .u8 ((n : Int) / 256 % 256), .int .u8 ((n : Int) % 256)] 5)) (b := w.heap.size + 1) (off := 0) (n := 4) (cap := 4)
    (by have := Blk.new (w.alloc (.cells #[.string s] 9)) [.int .u8 ((n : Int) / 16777216), .int .u8 ((n : Int) / 65536 % 256), .int .u8 ((n : Int) / 256 % 256), .int .u8 ((n : Int) % 256)] 5; simpa using this) (be 4 n) (by rw [be4_cells n hn]; rfl) (be_len 4 n)
  have hct := cat_run (P := Try.prog) s (tx (be 4 n)) (by rw [tx_size, be_len]; omega)
  clear hN
  go_wp2_with fail
  go_ret
  exact ⟨ret_strs HR.out, ((Kp.refl _ _).alloc _).alloc _⟩

theorem open_drop (s : ByteArray) (h : 4 ≤ s.size) : bl (s.extract 0 (s.size - 4)) = (bl s).take ((bl s).length - 4) := by
  rw [bl_cut, bl_len]; simp
set_option maxRecDepth 100000 in
set_option maxHeartbeats 1000000 in
theorem sOpen (s : ByteArray) (hs : s.size = 30) (w : World) : Calls Try.prog 70 #[.string s] w fun e w' => e = .returned (if sealL ((bl s).take 26) = bl s then .tuple #[.string (tx ((bl s).take 26)), .bool true] else .tuple #[.string ⟨#[]⟩, .bool false]) ∧ Kp none' w w' := by
  have hx : bl (s.extract 0 26) = (bl s).take 26 := by rw [bl_cut]; simp
  have H1 := sSeal (s.extract 0 26) (by rw [← bl_len, hx, List.length_take]; omega)
  rw [hx] at H1
  have H1 := Lib.hid H1
  have hs2 : (s.size : Int) = 30 := by omega
  by_cases h : sealL ((bl s).take 26) = bl s
  · rw [if_pos h]
    have h2 : ((tx (sealL ((bl s).take 26))).toList == s.toList) = true := by rw [h, tx_bl]; simp
    have h3 : (!((tx (sealL ((bl s).take 26))).toList == s.toList)) = false := by rw [h2]; rfl
    have HX : Hid (s.extract 0 26 = tx ((bl s).take 26)) := str_ext (by rw [hx, bl_tx])
    clear h hx
    go_enter Try.func70, Try.ntmps70
    go_wp2_with fail
    refine (H1.out _).mono ?_
    rintro e w1 ⟨rfl, k1⟩
    go_wp2_with fail
    go_ret2
    exact ⟨by rw [← HX.out]; rfl, k1⟩
  · rw [if_neg h]
    have h2 : ((tx (sealL ((bl s).take 26))).toList == s.toList) = false := str_bne (fun e => h (by rw [← bl_tx (sealL _), e]))
    have h3 : (!((tx (sealL ((bl s).take 26))).toList == s.toList)) = true := by rw [h2]; rfl
    clear h hx
    go_enter Try.func70, Try.ntmps70
    go_wp2_with fail
    refine (H1.out _).mono ?_
    rintro e w1 ⟨rfl, k1⟩
    go_wp2_with fail
    go_ret2
    exact ⟨rfl, k1⟩

/-- The document's. -/
theorem rMore (s : ByteArray) (hs : s.size ≤ 1000000) (w : World) : Calls Try.prog 84 #[.int .u32 1, .string s] w fun e w' => e = .returned (.int .u32 (sumN (bl s))) ∧ w = w' := by
  go_enter Try.func84, Try.ntmps84
  go_wp2
  go_loop [5, 6, 7] (fun a b i => ∃ k : Nat, k ≤ s.size ∧ i = .int .i64 k ∧ ∃ x y : Nat, a = .int .i64 x ∧ b = .int .i64 y ∧ x < 65521 ∧ y < 65521 ∧ Hid (adl (1, 0) ((bl s).take k) = (x, y))) (fun _ _ i => s.size - (intOf i).toNat)
  case atStart => exact ⟨0, by omega, rfl, 1, 0, rfl, rfl, by omega, by omega, rfl⟩
  case round =>
    obtain ⟨k, hk, rfl, x, y, rfl, rfl, hx, hy, hp⟩ := hrel
    by_cases hlt : k < s.size
    · have hc := UInt8.toNat_lt s[k]
      obtain ⟨h1, h2⟩ := ad_int (x, y) s[k]
      have HP : Hid (adl (1, 0) ((bl s).take (k + 1)) = ad (x, y) s[k]) := by show _ = _; rw [take_bl1 s k hlt, adl_snoc, hp.out]
      have H1 := Lib.hid h1; have H2 := Lib.hid h2
      clear h1 h2
      go_wp2
      go_round
      case rel =>
        have l1 : (ad (x, y) s[k]).1 < 65521 := Nat.mod_lt _ (by decide)
        have l2 : (ad (x, y) s[k]).2 < 65521 := Nat.mod_lt _ (by decide)
        exact ⟨k + 1, by omega, by go_num, (ad (x, y) s[k]).1, (ad (x, y) s[k]).2, by rw [H1.out], by rw [H2.out], l1, l2, HP.out⟩
      case measure => simp [intOf]; omega
    · have HP : Hid (sumN (bl s) = y * 65536 + x) := by show _ = _; unfold sumN; rw [← take_all s hlt, hp.out]
      go_wp2
      go_ret
      have e : (y : Int) * 65536 + (x : Int) = ((sumN (bl s) : Nat) : Int) := by rw [HP.out]; simp
      exact ⟨ret_int e, rfl⟩
theorem rOf (s : ByteArray) (hs : s.size ≤ 1000000) (w : World) : Calls Try.prog 79 #[.string s] w fun e w' => e = .returned (.int .u32 (sumN (bl s))) ∧ w = w' := by
  have H1 := Lib.hid (fun W => rMore s hs W)
  go_enter Try.func79, Try.ntmps79
  go_wp2_with fail
  refine (H1.out _).mono ?_
  rintro e w' ⟨rfl, rfl⟩
  go_wp2_with fail
  go_ret
  exact ⟨rfl, rfl⟩
/-- A row of bytes made a text. -/
theorem conv_sl {P : Program} (src e dst : TypeId) (hs : P.underlying src = some (.slice e)) (he : P.underlying e = some (.int .u8)) (hd : P.underlying dst = some .string) {w : World} {v : Value} (l : List UInt8) (h0 : l ≠ []) (h : Sl w v l.length 1 (u8s l)) :
    (convert src dst v).run P w = .ok (.string (tx l)) w := by
  obtain ⟨ao, cap, rfl, hc⟩ := h.is
  obtain ⟨b, off, rfl, _⟩ := hc 0 (.int .u8 (l[0]'(List.length_pos_iff.2 h0)).toNat) (by simp [u8s, List.length_pos_iff.2 h0])
  have h := run_convert_bytes_arg (P := P) w src e hs he b off l.length cap (l.map fun c => (c.toNat : Int)) (by simp) (fun i hi => by
    have hi : i < l.length := by simpa using hi
    have h1 : (u8s l)[i]? = some (.int .u8 (l[i]'hi).toNat) := by simp [u8s, hi]
    obtain ⟨b', off', e1, e2⟩ := hc i _ h1
    injection e1 with e1; injection e1 with e1 e3 e4; subst e1; subst e3
    rw [e2]
    simp [List.getD, hi]) dst hd
  rw [h, str_nums]
set_option maxHeartbeats 1000000 in
theorem rSeal (s : ByteArray) (hs : s.size ≤ 900000) (w : World) : Calls Try.prog 69 #[.string s] w fun e w' => e = .returned (.string (tx (sealL (bl s)))) ∧ Kp none' w w' := by
  have H1 := Lib.hid (fun W => rOf s (by omega) W)
  have hn := sumN_wrap (bl s)
  go_enter Try.func69, Try.ntmps69
  go_wp2_with fail
  refine (H1.out _).mono ?_
  rintro e w' ⟨rfl, rfl⟩
  obtain ⟨n, hN⟩ : ∃ n, sumN (bl s) = n := ⟨_, rfl⟩
  rw [hN] at hn ⊢
  have HR := Lib.hid (seal_str s n hN)
  have hct := cat_run (P := Try.prog) s (tx (be 4 n)) (by rw [tx_size, be_len]; omega)
  have HB := Lib.hid (be4_cells n hn)
  clear hN
  go_wp2_with (at_builtin; refine wp_appN tU8 (.tmp 7) (.tmp 22) rfl rfl w.heap.size (World.ownsRow_nil _ _ _ _) (u8s (be 4 n)) rfl rfl (by simp [u8s, be_len]) ?c1 ?c2 (by decide) (by decide) ?c3 ?_)
  case c1 =>
    intro j u hu
    rw [HB.out] at hu
    rw [Nat.zero_add]
    exact (Blk.new _ _ _).cell j hu
  case c2 => rw [HB.out]; rfl
  case c3 => simp
  intro v' w2 hown hgrow
  have hcv := conv_sl (P := Try.prog) 104 5 9 Try.underlying104 Try.underlying5 Try.underlying9 (be 4 n) (by simp [be]) (by have := own_sl hown; rw [be_len]; simpa using this)
  have HK : Hid (Kp none' w w2) := ((Kp.refl _ _).alloc _).grown hgrow (fun k hk => by cases hk)
  clear hown hgrow
  go_wp2_with fail
  go_ret
  exact ⟨ret_strs HR.out, HK.out⟩
end Go.Proofs.Ythjapdjglifopaa
