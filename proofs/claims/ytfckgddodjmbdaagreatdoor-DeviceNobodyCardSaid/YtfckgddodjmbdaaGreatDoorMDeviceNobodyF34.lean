/- Texts put together, bytes made texts. Names no function of the program. -/
import Derived.Test.YtfckgddodjmbdaaGreatDoorMDeviceNobodyF28
import Derived.Test.YtfckgddodjmbdaaGreatDoorMDeviceNobodyF1
import Derived.Deep.QuietTactic
import Derived.BigQuiet
import Derived.Test.YtfckgddodjmbdaaGreatDoorShelf
import Derived.Lib.Builder
import Derived.Lib.AppendStr
import Derived.Laws.BytesArg
import Derived.Test.YtfckgddodjmbdaaGreatDoorMDeviceNobodyF2
import Derived.Carry
namespace Go.Proofs.YtfckgddodjmbdaaGreatDoor
set_option linter.unusedVariables false
set_option linter.unusedSimpArgs false
open Go.RowKit
def u8s (l : List UInt8) : List Value := l.map fun c => .int .u8 (c.toNat : Int)
theorem str_nums (l : List UInt8) : strOfNums (l.map fun c => (c.toNat : Int)) = tx l := by
  apply str_ext
  rw [bl_tx]
  show (strOfNums _).data.toList = l
  rw [strOfNums_data, List.map_map]
  conv => rhs; rw [← List.map_id l]
  apply List.map_congr_left
  intro c _
  simp
theorem cat_run {P : Program} (a b : ByteArray) (h : a.size + b.size ≤ 1000000) (W : World) : (Op.stringOp .add a b).run P W = .ok (.string (a ++ b)) W := run_string_add_sum W a b (by omega)
theorem bl_app (a b : ByteArray) : bl (a ++ b) = bl a ++ bl b := by simp [bl]
theorem byte_of (n : Nat) : ((UInt8.ofNat (n % 256)).toNat : Int) = (n : Int) % 256 := by simp
theorem ret_strs {a b : ByteArray} (h : a = b) : Ending.returned (.string a) = .returned (.string b) := by rw [h]
end Go.Proofs.YtfckgddodjmbdaaGreatDoor

namespace Go.Proofs.YtfckgddodjmbdaaGreatDoor
set_option linter.unusedVariables false
set_option linter.unusedSimpArgs false
open Go.RowKit Go.Shelf
theorem tU8 : SlT Tryz.prog 208 5 (.int .u8 0) 1 1 := ⟨Tryz.underlying208, by kernel_rfl, rfl, by decide⟩
def BS (w : World) (B b : Nat) : Nat → Prop := fun k => k = b ∨ (B ≤ k ∧ ∃ cs fr, w.heap[k]? = some (.cells cs 5 fr))
def KB (B b : Nat) (w w' : World) : Prop := Kp (BS w B b) w w'
theorem KB.refl (B b : Nat) (w : World) : KB B b w w := Kp.refl _ _
theorem KB.trans {B b : Nat} {w0 w w' : World} (h : KB B b w0 w) (k : KB B b w w') : KB B b w0 w' :=
  ⟨k.os.trans h.os, k.tape.trans h.tape, k.output.trans h.output, Nat.le_trans h.size k.size, fun i hi hs => by
    have h1 := h.block i hi hs
    refine (k.block i (Nat.lt_of_lt_of_le hi h.size) (fun e => hs ?_)).trans h1
    rcases e with e | ⟨e, e2⟩
    · exact .inl e
    · exact .inr ⟨e, by rw [← h1]; exact e2⟩⟩
theorem KB.old {B b : Nat} {w w' : World} (h : Kp none' w w') : KB B b w w' := h.mono (fun _ _ x => x.elim)
theorem KB.none {B b : Nat} {w0 w w' : World} (h : Kp none' w0 w) (k : KB B b w w') (hB : w0.heap.size ≤ B) (hb : B ≤ b) : Kp none' w0 w' :=
  h.then k (fun i hi e => by rcases e with e | ⟨e, _⟩ <;> omega)
theorem Blk.kb {B b : Nat} {w w' : World} {k : Nat} {cs : List Value} {t : TypeId} (h : Blk w k cs t) (hk : KB B b w w') (h1 : k ≠ b) (h2 : t ≠ 5) : Blk w' k cs t :=
  h.kp hk (fun e => by
    rcases e with e | ⟨_, c, fr, e⟩
    · exact h1 e
    · rw [h.is] at e; injection e with e; injection e with _ e _; exact h2 e)
theorem Sl.kb {B b : Nat} {w w' : World} {v : Value} {n sz : Nat} {cs : List Value} (h : Sl w v n sz cs) (hk : KB B b w w') (hv : ∀ k, v.ownBlock = some k → k < B) (hb : B ≤ b) : Sl w' v n sz cs :=
  h.kp hk (fun k _ hk e => by
    have := hv k hk
    rcases e with e | ⟨e, _⟩ <;> omega)
theorem kp_at (w : World) (b o : Nat) (u : Value) : Kp (fun k => k = b) w (w.setCell ⟨b, o, none⟩ u) := (Kp.refl (fun k => k = b) w).set (p := ⟨b, o, none⟩) (.inl rfl) u

theorem and16 (x : Nat) (hx : x < 4294967296) : bits BinOp.and IntKind.u32 (x : Int) 65535 = ((x % 65536 : Nat) : Int) := by
  have h1 : x % 65536 = x &&& 65535 := (Nat.and_two_pow_sub_one_eq_mod x 16).symm
  rw [h1]
  exact u32_and_nat x 65535 hx (by decide)
theorem not16 (x : Nat) (hx : x < 65536) : bits BinOp.xor IntKind.u16 IntKind.u16.max (x : Int) = ((65535 - x : Nat) : Int) := by
  have e : IntKind.u16.max = ((65535 : Nat) : Int) := by decide
  rw [e, u16_xor_nat 65535 x (by decide) hx]
  congr 1
  have h := BitVec.toNat_not (x := BitVec.ofNat 16 x)
  rw [BitVec.not_def, BitVec.toNat_xor, BitVec.toNat_ofNat, BitVec.toNat_allOnes, Nat.mod_eq_of_lt hx] at h
  simpa using h
theorem ring_int (a b : Nat) : ((ringN a b : Nat) : Int) = ((a : Int) + b) / 65536 + ((a : Int) + b) % 65536 := by unfold ringN; omega
set_option maxHeartbeats 1000000 in
theorem hRing (a b : Nat) (h : a + b < 4294967296) (w : World) : Calls Tryz.prog 67 #[.int .u32 a, .int .u32 b] w fun e w' => e = .returned (.int .u32 (ringN a b : Nat)) ∧ w = w' := by
  rw [ring_int]
  have ha := and16 (a + b) h
  rw [show ((a + b : Nat) : Int) = (a : Int) + b by omega] at ha
  have hr : ((a : Int) + b) / 65536 + (((a + b) % 65536 : Nat) : Int) = ((a : Int) + b) / 65536 + ((a : Int) + b) % 65536 := by omega
  go_enter Tryz.func67, Tryz.ntmps67
  go_wp2
  go_ret
  exact ⟨rfl, rfl⟩
theorem gd (s : ByteArray) (k : Nat) (h : k < s.size) : (bl s).getD k 0 = s[k] := by
  rw [List.getD_eq_getElem?_getD, List.getElem?_eq_getElem (by rw [bl_len]; exact h)]; rfl
theorem hf_int (s : ByteArray) (k : Nat) (h : k + 1 < s.size) : ((hf (bl s) k : Nat) : Int) = (s[k].toNat : Int) * 256 + (s[k + 1].toNat : Int) := by
  unfold hf; rw [gd s k (by omega), gd s (k + 1) h]; simp
set_option maxRecDepth 100000 in
set_option maxHeartbeats 1000000 in
theorem hHalf (s : ByteArray) (k : Nat) (h : k + 1 < s.size) (hs : s.size ≤ 1000000) (w : World) : Calls Tryz.prog 37 #[.string s, .int .i64 k] w fun e w' => e = .returned (.int .u16 (hf (bl s) k : Nat)) ∧ Kp none' w w' := by
  rw [hf_int s k h]
  have hk : (k : Int) + 1 < s.size := by omega
  have h0 : k < s.size := by omega
  have h1 := UInt8.toNat_lt s[k]
  have h2 := UInt8.toNat_lt s[k + 1]
  have q1 : IntKind.u16.wrap ((s[k].toNat : Nat) : Int) = s[k].toNat := IntWalk.u16_in _ (by omega)
  have q2 : IntKind.u16.wrap (((s[k].toNat : Nat) : Int) * 256) = s[k].toNat * 256 := IntWalk.u16_in _ (by omega)
  have q3 : IntKind.u16.wrap ((s[k + 1].toNat : Nat) : Int) = s[k + 1].toNat := IntWalk.u16_in _ (by omega)
  have q4 : IntKind.i64.wrap ((k : Int) + 1) = (k : Int) + 1 := IntWalk.i64_in _ (by omega)
  have q5 : ((k : Int) + 1).toNat = k + 1 := by omega
  go_enter Tryz.func37, Tryz.ntmps37
  go_wp2_with fail
  refine wp_region_kept2 [] [0, 1, 2, 3, 4, 5, 6, 7, 8, 9] 10 (by kernel_rfl) (by kernel_rfl) (fun c a d u w h => by cases d <;> exact h) ?_
  simp only [pick, List.getElem?_cons_succ, List.getElem?_cons_zero, List.drop_succ_cons, List.drop_zero]
  show wpKL _ _ _ _ _ _
  repeat (first
    | (refine wpKL_op (by exact rfl) (by as_aux_lemma => intro W hK; go_simp; exact rfl) ?_; simp only [Act.put, List.setIfInBounds_toArray, List.set_cons_succ, List.set_cons_zero])
    | (refine wpKL_off (by exact rfl) ?_; simp only [Act.put, List.setIfInBounds_toArray, List.set_cons_succ, List.set_cons_zero]))
  show ∀ W, _ → wpList _ _ _ _ _ _
  intro W hK
  have HK := Lib.hid hK
  clear hK
  go_wp2
  go_ret
  exact ⟨rfl, HK.out⟩
set_option maxRecDepth 100000 in
set_option maxHeartbeats 1000000 in
theorem hWord (s : ByteArray) (k : Nat) (h : k + 3 < s.size) (hs : s.size ≤ 1000000) (w : World) : Calls Tryz.prog 39 #[.string s, .int .i64 k] w fun e w' => e = .returned (.int .u32 (wd (bl s) k : Nat)) ∧ Kp none' w w' := by
  have H1 := Lib.hid (fun W => hHalf s k (by omega) hs W)
  have h2 := fun W => hHalf s (k + 2) (by omega) hs W
  rw [show ((k + 2 : Nat) : Int) = (k : Int) + 2 by omega] at h2
  have H2 := Lib.hid h2
  have l1 := hf_lt (bl s) k
  have l2 := hf_lt (bl s) (k + 2)
  have e : ((wd (bl s) k : Nat) : Int) = ((hf (bl s) k : Nat) : Int) * 65536 + ((hf (bl s) (k + 2) : Nat) : Int) := by unfold wd; omega
  rw [e]
  obtain ⟨a, ha⟩ : ∃ a, hf (bl s) k = a := ⟨_, rfl⟩
  obtain ⟨b, hb⟩ : ∃ b, hf (bl s) (k + 2) = b := ⟨_, rfl⟩
  rw [ha] at H1 l1 ⊢
  rw [hb] at H2 l2 ⊢
  clear e ha hb h2
  go_enter Tryz.func39, Tryz.ntmps39
  go_wp2_with fail
  refine (H1.out _).mono ?_
  rintro e w1 ⟨rfl, hk1⟩
  have HK1 := Lib.hid hk1
  clear hk1
  go_wp2_with fail
  refine (H2.out _).mono ?_
  rintro e w2 ⟨rfl, hk2⟩
  have HK2 := Lib.hid (HK1.out.trans hk2)
  clear hk2
  go_wp2
  go_ret
  exact ⟨rfl, HK2.out⟩
theorem inetI_le (l : List UInt8) (k : Nat) : inetI l k ≤ 131071 := inetF_le _ _ (by omega)
set_option maxRecDepth 100000 in
set_option maxHeartbeats 1000000 in
theorem hInet (s : ByteArray) (hs : s.size ≤ 1000000) (w : World) : Calls Tryz.prog 38 #[.string s] w fun e w' => e = .returned (.int .u16 (inetL (bl s) : Nat)) ∧ w = w' := by
  have HR := Lib.hid (fun a b h W => hRing a b h W)
  go_enter Tryz.func38, Tryz.ntmps38
  go_wp2
  go_loop [3, 4] (fun n0 i0 => ∃ k : Nat, i0 = .int .i64 (2 * (k : Int)) ∧ 2 * k ≤ s.size + 1 ∧ n0 = .int .u32 (inetI (bl s) k : Nat)) (fun _ i0 => s.size + 2 - (intOf i0).toNat)
  case atStart => exact ⟨0, rfl, by omega, rfl⟩
  case round =>
    obtain ⟨k, rfl, hk, rfl⟩ := hrel
    have hle := inetI_le (bl s) k
    by_cases h0 : 2 * k < s.size
    · have hc := UInt8.toNat_lt s[2 * k]
      by_cases h1 : 2 * k + 1 < s.size
      · have hd := UInt8.toNat_lt s[2 * k + 1]
        have hst := inetI_step (l := bl s) (k := k) (by rw [bl_len]; omega)
        rw [bl_get s (2 * k) h0, bl_get s (2 * k + 1) h1] at hst
        have HS := Lib.hid hst
        obtain ⟨n, hn⟩ : ∃ n, inetI (bl s) k = n := ⟨_, rfl⟩
        obtain ⟨m, hm⟩ : ∃ m, inetI (bl s) (k + 1) = m := ⟨_, rfl⟩
        rw [hn, hm] at HS
        rw [hn] at hle ⊢
        have HM := Lib.hid hm
        have hr := fun W => HR.out n (s[2 * k].toNat * 256 + s[2 * k + 1].toNat) (by omega) W
        rw [← HS.out, show ((s[2 * k].toNat * 256 + s[2 * k + 1].toNat : Nat) : Int) = (s[2 * k].toNat : Int) * 256 + (s[2 * k + 1].toNat : Int) by omega] at hr
        have HR1 := Lib.hid hr
        clear hst hn hm hr HS
        go_wp2_with fail
        refine (HR1.out _).mono ?_
        rintro e w' ⟨rfl, rfl⟩
        go_wp2_with fail
        go_round
        case rel => exact ⟨k + 1, by go_num, by omega, by rw [HM.out]⟩
        case measure => simp [intOf]; omega
      · have hst := inetI_last (l := bl s) (k := k) (by rw [bl_len]; omega)
        rw [inetI_all (l := bl s) (k := k + 1) (by rw [bl_len]; omega), bl_get s (2 * k) h0] at hst
        obtain ⟨n, hn⟩ : ∃ n, inetI (bl s) k = n := ⟨_, rfl⟩
        obtain ⟨m, hm⟩ : ∃ m, inetI (bl s) (k + 1) = m := ⟨_, rfl⟩
        rw [hn, hm] at hst
        rw [hn] at hle ⊢
        have HM := Lib.hid hm
        have hr := fun W => HR.out n (s[2 * k].toNat * 256) (by omega) W
        rw [← hst, show ((s[2 * k].toNat * 256 : Nat) : Int) = (s[2 * k].toNat : Int) * 256 by omega] at hr
        have HR1 := Lib.hid hr
        clear hst hn hm hr
        go_wp2_with fail
        refine (HR1.out _).mono ?_
        rintro e w' ⟨rfl, rfl⟩
        go_wp2_with fail
        go_round
        case rel => exact ⟨k + 1, by go_num, by omega, by rw [HM.out]⟩
        case measure => simp [intOf]; omega
    · have hall := inetI_all (l := bl s) (k := k) (by rw [bl_len]; omega)
      have hL : inetL (bl s) = 65535 - inetI (bl s) k % 65536 := by unfold inetL; rw [hall]
      obtain ⟨n, hn⟩ : ∃ n, inetI (bl s) k = n := ⟨_, rfl⟩
      rw [hn] at hL hle ⊢
      have HL := Lib.hid hL
      have hw : IntKind.u16.wrap (n : Int) = ((n % 65536 : Nat) : Int) := by rw [IntKind.wrap_u16]; omega
      have hx := not16 (n % 65536) (by omega)
      rw [← hw] at hx
      clear hall hn hL hw
      go_wp2
      go_ret
      rw [HL.out]
      exact ⟨ret_int rfl, rfl⟩

set_option maxRecDepth 100000 in
set_option maxHeartbeats 1000000 in
theorem hUpd (a b c : Nat) (ha : a < 65536) (hb : b < 65536) (hc : c < 65536) (w : World) : Calls Tryz.prog 72 #[.int .u16 a, .int .u16 b, .int .u16 c] w fun e w' => e = .returned (.int .u16 (updN a b c : Nat)) ∧ w = w' := by
  have x1 := not16 a ha
  have x2 := not16 b hb
  have hn1 := ring_le (a := 65535 - a) (b := 65535 - b) (by omega) (by omega)
  have hn2 := ring_le (a := ringN (65535 - a) (65535 - b)) (b := c) (by omega) (by omega)
  have HR1 := Lib.hid (fun W => hRing (65535 - a) (65535 - b) (by omega) W)
  have HR2 := Lib.hid (fun W => hRing (ringN (65535 - a) (65535 - b)) c (by omega) W)
  unfold updN
  obtain ⟨p, hp⟩ : ∃ p, ringN (65535 - a) (65535 - b) = p := ⟨_, rfl⟩
  rw [hp] at hn1 hn2 HR1 HR2 ⊢
  obtain ⟨q, hq⟩ : ∃ q, ringN p c = q := ⟨_, rfl⟩
  rw [hq] at hn2 HR2 ⊢
  obtain ⟨a', ha'⟩ : ∃ a', 65535 - a = a' := ⟨_, rfl⟩
  obtain ⟨b', hb'⟩ : ∃ b', 65535 - b = b' := ⟨_, rfl⟩
  rw [ha'] at x1 HR1
  rw [hb'] at x2 HR1
  have l1 : a' ≤ 65535 := by omega
  have l2 : b' ≤ 65535 := by omega
  have x3 := not16 (q % 65536) (by omega)
  have hw : IntKind.u16.wrap (q : Int) = ((q % 65536 : Nat) : Int) := by rw [IntKind.wrap_u16]; omega
  rw [← hw] at x3
  have m1 : (a' : Int) % 4294967296 = a' := by omega
  have m2 : (b' : Int) % 4294967296 = b' := by omega
  have m3 : (c : Int) % 4294967296 = c := by omega
  clear hp hq ha' hb' hw
  go_enter Tryz.func72, Tryz.ntmps72
  go_wp2_with fail
  refine (HR1.out _).mono ?_
  rintro e w' ⟨rfl, rfl⟩
  go_wp2_with fail
  refine (HR2.out _).mono ?_
  rintro e w' ⟨rfl, rfl⟩
  go_wp2
  go_ret
  exact ⟨ret_int rfl, rfl⟩

def u16c (l : List Nat) : List Value := l.map fun (n : Nat) => .int .u16 (n : Int)
def hvL (l : List Nat) : List UInt8 := l.flatMap (be 2)
theorem hv_snoc (l : List Nat) (n : Nat) : hvL (l ++ [n]) = hvL l ++ be 2 n := by simp [hvL]
theorem hv_len (l : List Nat) : (hvL l).length = 2 * l.length := by
  induction l with
  | nil => rfl
  | cons a r ih => show (be 2 a ++ hvL r).length = _; rw [List.length_append, be_len, ih, List.length_cons]; omega
theorem u8s_app (a b : List UInt8) : u8s (a ++ b) = u8s a ++ u8s b := by simp [u8s]
theorem u8s_len (a : List UInt8) : (u8s a).length = a.length := by simp [u8s]
theorem be2_cells (n : Nat) (h : n < 65536) : u8s (be 2 n) = [.int .u8 ((n : Int) / 256), .int .u8 ((n : Int) % 256)] := by
  simp only [be, u8s, List.nil_append, List.map_append, List.map_cons, List.map_nil, byte_of, List.cons_append]
  have e1 : ((n / 256 : Nat) : Int) % 256 = (n : Int) / 256 := by omega
  rw [e1]
theorem conv_own {w : World} {base n : Nat} {v : Value} {l : List UInt8} (h : w.ownsRow base 5 1 v n (u8s l)) (h0 : 0 < n) :
    (convert 208 9 v).run Tryz.prog w = .ok (.string (tx l)) w := by
  have hl : l.length = n := by have := h.1; rw [u8s_len, Nat.mul_one] at this; exact this
  rcases h.2 with ⟨rfl, rfl⟩ | ⟨g, cap, cur, rfl, hg, hh, hn, hm, hs, ht⟩
  · omega
  · have hk := run_convert_bytes_arg (P := Tryz.prog) w 208 5 Tryz.underlying208 Tryz.underlying5 g 0 n cap (l.map fun c => (c.toNat : Int)) (by simp [hl]) (fun i hi => by
      have h1 : (u8s l)[i]? = some (.int .u8 (l[i]'(by omega)).toNat) := by simp [u8s, hl ▸ hi]
      rw [← ht, List.getElem?_take, if_pos (by omega)] at h1
      have h2 : w.cell? ⟨g, 0 + i, none⟩ = some (.int .u8 (l[i]'(by omega)).toNat) := by
        simp only [World.cell?, hh, Nat.zero_add]
        simpa using h1
      rw [h2]
      simp [List.getD, hl ▸ hi]) 9 Tryz.underlying9
    rw [hk, str_nums]
set_option maxRecDepth 100000 in
set_option maxHeartbeats 2000000 in
theorem hHalves (l : List Nat) (hl : ∀ x ∈ l, x < 65536) (h0 : 0 < l.length) (hn : l.length ≤ 1000) (v : Value) (w : World) (h : Sl w v l.length 1 (u16c l)) :
    Calls Tryz.prog 59 #[v] w fun e w' => e = .returned (.string (tx (hvL l))) ∧ Kp none' w w' := by
  have HS := Lib.hid h
  obtain ⟨ao, cap, rfl⟩ : ∃ ao cap, v = .slice ao l.length cap := by obtain ⟨ao, cap, rfl, _⟩ := h.is; exact ⟨_, _, rfl⟩
  have HO0 : Hid (w.ownsRow w.heap.size 5 1 (.slice none 0 0) 0 (u8s (hvL []))) := Lib.hid ⟨rfl, .inl ⟨rfl, rfl⟩⟩
  clear h
  go_enter Tryz.func59, Tryz.ntmps59
  go_wp2_with fail
  go_loopw [3, 8] (fun v0 i0 wr => ∃ k : Nat, i0 = .int .i64 k ∧ k ≤ l.length ∧ Hid (wr.ownsRow w.heap.size 5 1 v0 (2 * k) (u8s (hvL (l.take k)))) ∧ Hid (Kp none' w wr)) (fun _ i0 _ => l.length - (intOf i0).toNat)
  case atStart => exact ⟨0, rfl, by omega, by rw [List.take_zero]; exact HO0, Lib.hid (Kp.refl _ _)⟩
  case round =>
    clear HO0
    obtain ⟨k, rfl, hk, HO, HK⟩ := hrel
    obtain ⟨xo, xc, rfl⟩ := own_shape HO.out
    by_cases hlt : k < l.length
    · have hki : (k : Int) < l.length := by omega
      obtain ⟨n, hnn⟩ : ∃ n, l[k] = n := ⟨_, rfl⟩
      have hnl : n < 65536 := by rw [← hnn]; exact hl _ (List.getElem_mem _)
      have hcell : (u16c l)[k]? = some (.int .u16 n) := by simp [u16c, hlt, hnn]
      obtain ⟨ao', cap', e1, hc⟩ := (HS.out.old HK.out).is
      injection e1 with e1 _ e3
      subst e1 e3
      obtain ⟨g, off, rfl, hcg⟩ := hc k _ hcell
      have HX : Hid (u8s (hvL (l.take (k + 1))) = u8s (hvL (l.take k)) ++ [.int .u8 ((n : Int) / 256), .int .u8 ((n : Int) % 256)]) := by
        show _ = _
        rw [List.take_succ_eq_append_getElem hlt, hv_snoc, u8s_app, hnn, be2_cells n hnl]
      have hsz := HK.out.size
      clear hcell hc hnn
      go_wp2_with (at_builtin; refine wp_appN tU8 (.tmp 12) (.tmp 18) rfl rfl w.heap.size (HO.out.alloc _) (b := wr.heap.size) (off := 0) (m := 2) (c := 2) [.int .u8 ((n : Int) / 256), .int .u8 ((n : Int) % 256)] rfl rfl rfl (fun j u hu => (Blk.new wr [.int .u8 ((n : Int) / 256), .int .u8 ((n : Int) % 256)] 5).cell (0 + j) (by rw [Nat.zero_add]; exact hu)) rfl (by omega) (by omega) (by simp; omega) ?_)
      intro v3 w3 hown3 hgrow
      have HO3 : Hid (w3.ownsRow w.heap.size 5 1 v3 (2 * (k + 1)) (u8s (hvL (l.take (k + 1))))) := by
        rw [HX.out, show 2 * (k + 1) = 2 * k + 2 by omega]; exact hown3
      have HK3 : Hid (Kp none' w w3) := (HK.out.alloc _).grown hgrow (fun b e => .inr (own_block HO.out e).1)
      clear hown3 hgrow HX HO HK
      go_wp2_with fail
      go_roundw
      case rel => exact ⟨k + 1, by go_num, by omega, HO3, HK3⟩
      case measure => simp [intOf]; omega
    · have hkn : k = l.length := by omega
      have hx := conv_own HO.out (by omega)
      rw [List.take_of_length_le (by omega)] at hx
      have HF := Lib.hid (ret_strs (a := tx (hvL l)) rfl)
      clear HO hkn
      go_wp2_with fail
      go_ret
      exact ⟨rfl, HK.out⟩

theorem hClone (s : ByteArray) (hs : s.size ≤ 1000000) (w : World) : Calls Tryz.prog 40 #[.string s] w fun e w' => e = .returned (.string s) ∧ Kp none' w w' := by
  have HC := Lib.hid (fun W => Tryz.stringslite_Clone s W (by omega))
  go_enter Tryz.func40, Tryz.ntmps40
  go_wp2_with fail
  refine (HC.out _).mono ?_
  rintro e w1 ⟨rfl, hb⟩
  have HK := Lib.hid ((Kp.of_below hb).mono (T := none') (fun i h1 h2 => by omega))
  clear hb
  go_wp2
  go_ret
  exact ⟨rfl, HK.out⟩
theorem form_eq (s : ByteArray) (h : 28 ≤ s.size) : formB (bl s) = (decide (s[0].toNat = 69) && (decide (s[1].toNat % 4 = 0) && (decide (hf (bl s) 2 = s.size) && (decide (hf (bl s) 6 = 0) && (decide (s[9].toNat = 17) && (decide (hf (bl s) 24 + 20 = s.size) && decide (hf (bl s) 26 = 0))))))) := by
  unfold formB
  rw [gd s 0 (by omega), gd s 1 (by omega), gd s 9 (by omega), bl_len]
set_option maxRecDepth 100000 in
set_option maxHeartbeats 4000000 in
theorem hForm (s : ByteArray) (h : 28 ≤ s.size) (hs : s.size ≤ 1000000) (w : World) : Calls Tryz.prog 36 #[.string s] w fun e w' => e = .returned (.bool (formB (bl s))) ∧ Kp none' w w' := by
  rw [form_eq s h]
  have g0 := UInt8.toNat_lt s[0]
  have g1 := UInt8.toNat_lt s[1]
  have g9 := UInt8.toNat_lt s[9]
  have z0 : (0 : Int) < s.size := by omega
  have z1 : (1 : Int) < s.size := by omega
  have z9 : (9 : Int) < s.size := by omega
  have H2 : Hid (∀ W, Calls Tryz.prog 37 #[.string s, .int .i64 2] W fun e w' => e = .returned (.int .u16 (hf (bl s) 2 : Nat)) ∧ Kp none' W w') := Lib.hid (fun W => hHalf s 2 (by omega) hs W)
  have b2 := hf_lt (bl s) 2
  have H6 : Hid (∀ W, Calls Tryz.prog 37 #[.string s, .int .i64 6] W fun e w' => e = .returned (.int .u16 (hf (bl s) 6 : Nat)) ∧ Kp none' W w') := Lib.hid (fun W => hHalf s 6 (by omega) hs W)
  have b6 := hf_lt (bl s) 6
  have H24 : Hid (∀ W, Calls Tryz.prog 37 #[.string s, .int .i64 24] W fun e w' => e = .returned (.int .u16 (hf (bl s) 24 : Nat)) ∧ Kp none' W w') := Lib.hid (fun W => hHalf s 24 (by omega) hs W)
  have b24 := hf_lt (bl s) 24
  have H26 : Hid (∀ W, Calls Tryz.prog 37 #[.string s, .int .i64 26] W fun e w' => e = .returned (.int .u16 (hf (bl s) 26 : Nat)) ∧ Kp none' W w') := Lib.hid (fun W => hHalf s 26 (by omega) hs W)
  have b26 := hf_lt (bl s) 26
  obtain ⟨x2, e2⟩ : ∃ x, hf (bl s) 2 = x := ⟨_, rfl⟩
  rw [e2] at H2 b2 ⊢
  clear e2
  obtain ⟨x6, e6⟩ : ∃ x, hf (bl s) 6 = x := ⟨_, rfl⟩
  rw [e6] at H6 b6 ⊢
  clear e6
  obtain ⟨x24, e24⟩ : ∃ x, hf (bl s) 24 = x := ⟨_, rfl⟩
  rw [e24] at H24 b24 ⊢
  clear e24
  obtain ⟨x26, e26⟩ : ∃ x, hf (bl s) 26 = x := ⟨_, rfl⟩
  rw [e26] at H26 b26 ⊢
  clear e26
  obtain ⟨n0, e0⟩ : ∃ x, s[0].toNat = x := ⟨_, rfl⟩
  rw [e0] at g0 ⊢
  obtain ⟨n1, e1⟩ : ∃ x, s[1].toNat = x := ⟨_, rfl⟩
  rw [e1] at g1 ⊢
  obtain ⟨n9, e9⟩ : ∃ x, s[9].toNat = x := ⟨_, rfl⟩
  rw [e9] at g9 ⊢
  by_cases c0 : n0 = 69
  · skip
    by_cases c1 : n1 % 4 = 0
    · skip
      by_cases c2 : x2 = s.size
      · skip
        by_cases c3 : x6 = 0
        · skip
          by_cases c4 : n9 = 17
          · skip
            by_cases c5 : x24 + 20 = s.size
            · skip
              by_cases c6 : x26 = 0
              · skip
                rw [decide_eq_true c0, decide_eq_true c1, decide_eq_true c2, decide_eq_true c3, decide_eq_true c4, decide_eq_true c5, decide_eq_true c6]
                show Calls _ _ _ _ fun e w' => e = .returned (.bool true) ∧ _
                have i0 : ((n0 : Int) = 69) := by omega
                have i1 : ((n1 : Int) % 4 = 0) := by omega
                have i2 : ((x2 : Int) = s.size) := by omega
                have i3 : ((x6 : Int) = 0) := by omega
                have i4 : ((n9 : Int) = 17) := by omega
                have i5 : ((x24 : Int) = (s.size : Int) - 20) := by omega
                have i6 : ((x26 : Int) = 0) := by omega
                have i7 : ((x26 : Int) == 0) = true := by rw [i6]; rfl
                clear c0 c1 c2 c3 c4 c5 c6
                go_enter Tryz.func36, Tryz.ntmps36
                go_wp2_with fail
                refine (H2.out _).mono ?_
                rintro e w1 ⟨rfl, hk1⟩
                have HK1 := Lib.hid (hk1)
                clear hk1
                go_wp2_with fail
                refine (H6.out _).mono ?_
                rintro e w2 ⟨rfl, hk2⟩
                have HK2 := Lib.hid (HK1.out.trans hk2)
                clear hk2
                go_wp2_with fail
                refine (H24.out _).mono ?_
                rintro e w3 ⟨rfl, hk3⟩
                have HK3 := Lib.hid (HK2.out.trans hk3)
                clear hk3
                go_wp2_with fail
                refine (H26.out _).mono ?_
                rintro e w4 ⟨rfl, hk4⟩
                have HK4 := Lib.hid (HK3.out.trans hk4)
                clear hk4
                go_wp2_with fail
                go_ret
                exact ⟨rfl, HK4.out⟩
              · rw [decide_eq_true c0, decide_eq_true c1, decide_eq_true c2, decide_eq_true c3, decide_eq_true c4, decide_eq_true c5, decide_eq_false c6]
                show Calls _ _ _ _ fun e w' => e = .returned (.bool false) ∧ _
                have i0 : ((n0 : Int) = 69) := by omega
                have i1 : ((n1 : Int) % 4 = 0) := by omega
                have i2 : ((x2 : Int) = s.size) := by omega
                have i3 : ((x6 : Int) = 0) := by omega
                have i4 : ((n9 : Int) = 17) := by omega
                have i5 : ((x24 : Int) = (s.size : Int) - 20) := by omega
                have i6 : ¬ ((x26 : Int) = 0) := by omega
                have i7 : ((x26 : Int) == 0) = false := beq_eq_false_iff_ne.2 i6
                clear c0 c1 c2 c3 c4 c5 c6
                go_enter Tryz.func36, Tryz.ntmps36
                go_wp2_with fail
                refine (H2.out _).mono ?_
                rintro e w1 ⟨rfl, hk1⟩
                have HK1 := Lib.hid (hk1)
                clear hk1
                go_wp2_with fail
                refine (H6.out _).mono ?_
                rintro e w2 ⟨rfl, hk2⟩
                have HK2 := Lib.hid (HK1.out.trans hk2)
                clear hk2
                go_wp2_with fail
                refine (H24.out _).mono ?_
                rintro e w3 ⟨rfl, hk3⟩
                have HK3 := Lib.hid (HK2.out.trans hk3)
                clear hk3
                go_wp2_with fail
                refine (H26.out _).mono ?_
                rintro e w4 ⟨rfl, hk4⟩
                have HK4 := Lib.hid (HK3.out.trans hk4)
                clear hk4
                go_wp2_with fail
                go_ret
                exact ⟨rfl, HK4.out⟩
            · rw [decide_eq_true c0, decide_eq_true c1, decide_eq_true c2, decide_eq_true c3, decide_eq_true c4, decide_eq_false c5]
              show Calls _ _ _ _ fun e w' => e = .returned (.bool false) ∧ _
              have i0 : ((n0 : Int) = 69) := by omega
              have i1 : ((n1 : Int) % 4 = 0) := by omega
              have i2 : ((x2 : Int) = s.size) := by omega
              have i3 : ((x6 : Int) = 0) := by omega
              have i4 : ((n9 : Int) = 17) := by omega
              have i5 : ¬ ((x24 : Int) = (s.size : Int) - 20) := by omega
              clear c0 c1 c2 c3 c4 c5
              go_enter Tryz.func36, Tryz.ntmps36
              go_wp2_with fail
              refine (H2.out _).mono ?_
              rintro e w1 ⟨rfl, hk1⟩
              have HK1 := Lib.hid (hk1)
              clear hk1
              go_wp2_with fail
              refine (H6.out _).mono ?_
              rintro e w2 ⟨rfl, hk2⟩
              have HK2 := Lib.hid (HK1.out.trans hk2)
              clear hk2
              go_wp2_with fail
              refine (H24.out _).mono ?_
              rintro e w3 ⟨rfl, hk3⟩
              have HK3 := Lib.hid (HK2.out.trans hk3)
              clear hk3
              go_wp2_with fail
              go_ret
              exact ⟨rfl, HK3.out⟩
          · rw [decide_eq_true c0, decide_eq_true c1, decide_eq_true c2, decide_eq_true c3, decide_eq_false c4]
            show Calls _ _ _ _ fun e w' => e = .returned (.bool false) ∧ _
            have i0 : ((n0 : Int) = 69) := by omega
            have i1 : ((n1 : Int) % 4 = 0) := by omega
            have i2 : ((x2 : Int) = s.size) := by omega
            have i3 : ((x6 : Int) = 0) := by omega
            have i4 : ¬ ((n9 : Int) = 17) := by omega
            clear c0 c1 c2 c3 c4
            go_enter Tryz.func36, Tryz.ntmps36
            go_wp2_with fail
            refine (H2.out _).mono ?_
            rintro e w1 ⟨rfl, hk1⟩
            have HK1 := Lib.hid (hk1)
            clear hk1
            go_wp2_with fail
            refine (H6.out _).mono ?_
            rintro e w2 ⟨rfl, hk2⟩
            have HK2 := Lib.hid (HK1.out.trans hk2)
            clear hk2
            go_wp2_with fail
            go_ret
            exact ⟨rfl, HK2.out⟩
        · rw [decide_eq_true c0, decide_eq_true c1, decide_eq_true c2, decide_eq_false c3]
          show Calls _ _ _ _ fun e w' => e = .returned (.bool false) ∧ _
          have i0 : ((n0 : Int) = 69) := by omega
          have i1 : ((n1 : Int) % 4 = 0) := by omega
          have i2 : ((x2 : Int) = s.size) := by omega
          have i3 : ¬ ((x6 : Int) = 0) := by omega
          clear c0 c1 c2 c3
          go_enter Tryz.func36, Tryz.ntmps36
          go_wp2_with fail
          refine (H2.out _).mono ?_
          rintro e w1 ⟨rfl, hk1⟩
          have HK1 := Lib.hid (hk1)
          clear hk1
          go_wp2_with fail
          refine (H6.out _).mono ?_
          rintro e w2 ⟨rfl, hk2⟩
          have HK2 := Lib.hid (HK1.out.trans hk2)
          clear hk2
          go_wp2_with fail
          go_ret
          exact ⟨rfl, HK2.out⟩
      · rw [decide_eq_true c0, decide_eq_true c1, decide_eq_false c2]
        show Calls _ _ _ _ fun e w' => e = .returned (.bool false) ∧ _
        have i0 : ((n0 : Int) = 69) := by omega
        have i1 : ((n1 : Int) % 4 = 0) := by omega
        have i2 : ¬ ((x2 : Int) = s.size) := by omega
        clear c0 c1 c2
        go_enter Tryz.func36, Tryz.ntmps36
        go_wp2_with fail
        refine (H2.out _).mono ?_
        rintro e w1 ⟨rfl, hk1⟩
        have HK1 := Lib.hid (hk1)
        clear hk1
        go_wp2_with fail
        go_ret
        exact ⟨rfl, HK1.out⟩
    · rw [decide_eq_true c0, decide_eq_false c1]
      show Calls _ _ _ _ fun e w' => e = .returned (.bool false) ∧ _
      have i0 : ((n0 : Int) = 69) := by omega
      have i1 : ¬ ((n1 : Int) % 4 = 0) := by omega
      clear c0 c1
      go_enter Tryz.func36, Tryz.ntmps36
      go_wp2_with fail
      go_ret
      exact ⟨rfl, Kp.refl _ _⟩
  · rw [decide_eq_false c0]
    show Calls _ _ _ _ fun e w' => e = .returned (.bool false) ∧ _
    have i0 : ¬ ((n0 : Int) = 69) := by omega
    clear c0
    go_enter Tryz.func36, Tryz.ntmps36
    go_wp2_with fail
    go_ret
    exact ⟨rfl, Kp.refl _ _⟩
end Go.Proofs.YtfckgddodjmbdaaGreatDoor

namespace Go.Proofs.YtfckgddodjmbdaaGreatDoor
set_option linter.unusedVariables false
set_option linter.unusedSimpArgs false
open Go Go.RowKit Go.Shelf
theorem ret_cell3 {P : Program} {f : Func} {s u v : Tmp} {ty : TypeId} (hf : f.results = #[.cell s ty, .tmp u, .tmp v]) {R : Ending → World → Prop} {W : World} {g : Nat} {cs : List Value} {t : TypeId} {T : Array Value} (hb : Blk W g cs t) (d : TypeDesc) (hu : P.underlying ty = some d) (hd : (match d with | .struct _ | .array _ _ => true | _ => false) = true)
    (hi : (P.info? ty).map (·.size) = some cs.length) (h2 : T.getD s undef = .pointer (some ⟨g, 0, none⟩)) (hR : R (.returned (.tuple #[.agg cs.toArray, T.getD u undef, T.getD v undef])) W) : bodyPost P f R Exit.ret { tmps := T, defers := [] } W := by
  refine bodyPost_ret (v := .tuple #[.agg cs.toArray, T.getD u undef, T.getD v undef]) ?_ rfl hR
  have h2' : T[s]?.getD undef = .pointer (some ⟨g, 0, none⟩) := by simpa using h2
  simp [results, hf, h2', asAddr, run_loadVar_row W g t ty cs.toArray (0, 0) d hb.is hu hd (by rw [List.size_toArray]; exact hi)]
theorem wp_st_blk {P : Program} {ops : Array Oper} {rest : List Oper} {op : Oper} {a : Act} {Q : Exit → Act → World → Prop} (hgd : op.guard = none) (ty : TypeId) (x y : Operand) (ho : op.op = .store ty x y) {w : World} {b : Nat} {cs : List Value} {t : TypeId} (hb : Blk w b cs t) (vs : List Value) (hl : vs.length = cs.length)
    (hx : a.eval x = .pointer (some ⟨b, 0, none⟩)) (hy : a.eval y = .agg vs.toArray) (hinf : (P.info? ty).map (·.size) = some vs.length) (h1 : vs.all (·.oneCell') = true)
    (h : ∀ W2, Blk W2 b vs t → Kp (fun z => z = b) w W2 → wpList P ops Q rest (a.put op.dst undef) W2) : wpList P ops Q (op :: rest) a w :=
  wp_set_row hgd ty x y ho hb vs hx hy hinf hl.symm (List.all_eq_true.1 h1) fun W2 h2 _ hk => h W2 h2 (hk (fun z => z = b) w (Kp.refl _ _) (.inl rfl))
def hdZ : HdR := ⟨0, 0, 0, 0, 0, 0, 0⟩
theorem infoHd : (Tryz.prog.info? 56).map (·.size) = some 7 := by kernel_rfl
theorem top_str (s : ByteArray) : bl (s.extract 0 10 ++ ⟨#[0, 0]⟩ ++ s.extract 12 20) = topL (bl s) := by
  rw [bl_app, bl_app, bl_cut, bl_cut]
  unfold topL
  rw [List.drop_zero, List.append_assoc]
  rfl
theorem take_parts {l : List UInt8} (h : takeE l = 0) : 28 ≤ l.length ∧ formB l = true ∧ hf l 10 = inetL (topL l) := by
  unfold takeE at h
  split at h
  · cases h
  · split at h
    · cases h
    · split at h
      · rename_i h1 h2 h3
        exact ⟨by omega, by cases hh : formB l; exact absurd hh h2; rfl, h3⟩
      · cases h
end Go.Proofs.YtfckgddodjmbdaaGreatDoor
