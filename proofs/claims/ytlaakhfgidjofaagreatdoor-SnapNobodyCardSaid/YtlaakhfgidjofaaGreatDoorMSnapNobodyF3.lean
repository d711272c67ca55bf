/- Walks for layer 24: conf.Check, r24.Check. -/
import Derived.Test.YtlaakhfgidjofaaGreatDoorMSnapNobodyF2
import Derived.Test.YtlaakhfgidjofaaGreatDoorMSnapNobodyF1
import Derived.Deep.QuietTactic
import Derived.BigQuiet
import Derived.Test.YtlaakhfgidjofaaGreatDoorProg
import Derived.Laws.BytesArg
namespace Go.Proofs.YtlaakhfgidjofaaGreatDoor
set_option linter.unusedVariables false
set_option linter.unusedSimpArgs false
open Go Go.RowKit Go.Shelf
theorem chk_kind {c : CfR} (h : c.rank < 1 ∨ 3 < c.rank ∨ c.back < 1 ∨ 3 < c.back) : chk c = 22 := by unfold chk; rw [if_pos h]
theorem chk_lev {c : CfR} (h : ¬ (c.rank < 1 ∨ 3 < c.rank ∨ c.back < 1 ∨ 3 < c.back)) (h2 : c.levels < 1 ∨ 3 < c.levels) : chk c = 23 := by unfold chk; rw [if_neg h, if_pos h2]
theorem chk_que {c : CfR} (h : ¬ (c.rank < 1 ∨ 3 < c.rank ∨ c.back < 1 ∨ 3 < c.back)) (h2 : ¬ (c.levels < 1 ∨ 3 < c.levels)) (h3 : c.queues < 1 ∨ 32 < c.queues) : chk c = 24 := by unfold chk; rw [if_neg h, if_neg h2, if_pos h3]
theorem chk_rest {c : CfR} (h : ¬ (c.rank < 1 ∨ 3 < c.rank ∨ c.back < 1 ∨ 3 < c.back)) (h2 : ¬ (c.levels < 1 ∨ 3 < c.levels)) (h3 : ¬ (c.queues < 1 ∨ 32 < c.queues)) : chk c = if admE c ≠ 0 then admE c else if c.rate = 0 then 27 else if c.burst < c.mtu then 28 else 0 := by unfold chk; rw [if_neg h, if_neg h2, if_neg h3]
set_option maxRecDepth 100000 in
set_option maxHeartbeats 4000000 in
theorem gChk (c : CfR) (hc : c.ok) (v : Value) (w : World) (h : Sl w v c.flows.length 5 (c.flows.flatMap enFl)) : Calls Tryz.prog 34 #[.agg (enC c v).toArray] w fun e w' => e = .returned (.int .i64 (chk c)) ∧ Kp none' w w' := by
  have GA := Lib.hid (fun W hs => gAdm c hc v W hs)
  have H1 := Lib.hid (@chk_kind c); have H2 := Lib.hid (@chk_lev c); have H3 := Lib.hid (@chk_que c); have H4 := Lib.hid (@chk_rest c)
  have HS := Lib.hid h
  have b7 := hc.mtu; have b8 := hc.rate; have b9 := hc.burst
  unfold M64 at b7 b8 b9
  obtain ⟨ad, had⟩ : ∃ a, admE c = a := ⟨_, rfl⟩
  rw [had] at GA H4
  clear had
  obtain ⟨rk, bk, lv, qu, pk, bt, sh, mt, rt, bu, fl⟩ := c
  unfold enC at GA ⊢
  simp only at GA H1 H2 H3 H4 HS b7 b8 b9 ⊢
  clear h hc
  by_cases h1 : rk < 1
  · have HE := Lib.hid (H1.out (.inl h1))
    go_enter Tryz.func34, Tryz.ntmps34
    go_wp2
    go_ret
    exact ⟨by rw [HE.out]; rfl, (Kp.refl _ _).alloc _⟩
  · by_cases h2 : 3 < rk
    · have HE := Lib.hid (H1.out (.inr (.inl h2)))
      go_enter Tryz.func34, Tryz.ntmps34
      go_wp2
      go_ret
      exact ⟨by rw [HE.out]; rfl, (Kp.refl _ _).alloc _⟩
    · by_cases h3 : bk < 1
      · have HE := Lib.hid (H1.out (.inr (.inr (.inl h3))))
        go_enter Tryz.func34, Tryz.ntmps34
        go_wp2
        go_ret
        exact ⟨by rw [HE.out]; rfl, (Kp.refl _ _).alloc _⟩
      · by_cases h4 : 3 < bk
        · have HE := Lib.hid (H1.out (.inr (.inr (.inr h4))))
          go_enter Tryz.func34, Tryz.ntmps34
          go_wp2
          go_ret
          exact ⟨by rw [HE.out]; rfl, (Kp.refl _ _).alloc _⟩
        · have HN1 : Hid (¬ (rk < 1 ∨ 3 < rk ∨ bk < 1 ∨ 3 < bk)) := by show ¬ _; omega
          by_cases h5 : lv < 1
          · have HE := Lib.hid (H2.out HN1.out (.inl h5))
            go_enter Tryz.func34, Tryz.ntmps34
            go_wp2
            go_ret
            exact ⟨by rw [HE.out]; rfl, (Kp.refl _ _).alloc _⟩
          · by_cases h6 : 3 < lv
            · have HE := Lib.hid (H2.out HN1.out (.inr h6))
              go_enter Tryz.func34, Tryz.ntmps34
              go_wp2
              go_ret
              exact ⟨by rw [HE.out]; rfl, (Kp.refl _ _).alloc _⟩
            · have HN2 : Hid (¬ (lv < 1 ∨ 3 < lv)) := by show ¬ _; omega
              by_cases h7 : qu < 1
              · have HE := Lib.hid (H3.out HN1.out HN2.out (.inl h7))
                go_enter Tryz.func34, Tryz.ntmps34
                go_wp2
                go_ret
                exact ⟨by rw [HE.out]; rfl, (Kp.refl _ _).alloc _⟩
              · by_cases h8 : 32 < qu
                · have HE := Lib.hid (H3.out HN1.out HN2.out (.inr h8))
                  go_enter Tryz.func34, Tryz.ntmps34
                  go_wp2
                  go_ret
                  exact ⟨by rw [HE.out]; rfl, (Kp.refl _ _).alloc _⟩
                · have HE4 := Lib.hid (H4.out HN1.out HN2.out (by omega))
                  have hb0 := Blk.new w (enC ⟨rk, bk, lv, qu, pk, bt, sh, mt, rt, bu, fl⟩ v) 25
                  have hk0 := (Kp.refl none' w).alloc (.cells (enC ⟨rk, bk, lv, qu, pk, bt, sh, mt, rt, bu, fl⟩ v).toArray 25)
                  unfold enC at hb0 hk0
                  have HB0 := Lib.hid hb0; have HK0 := Lib.hid hk0
                  clear hb0 hk0 H1 H2 H3 H4
                  go_enter Tryz.func34, Tryz.ntmps34
                  go_wp2_with fail
                  refine (GA.out _ (HS.out.old HK0.out)).mono ?_
                  rintro e w2 ⟨rfl, k2⟩
                  have HK2 := Lib.hid (HK0.out.trans k2)
                  have hb2 := HB0.out.kp k2 (fun x => x)
                  have c7 := hb2.cell 7 rfl; have c8 := hb2.cell 8 rfl; have c9 := hb2.cell 9 rfl
                  clear k2 hb2 HB0 GA
                  by_cases ha : ad = 0
                  · subst ha
                    by_cases hr : rt = 0
                    · subst hr
                      have HE : Hid (chk ⟨rk, bk, lv, qu, pk, bt, sh, mt, 0, bu, fl⟩ = 27) := by show _ = _; rw [HE4.out]; rfl
                      go_wp2
                      go_ret
                      exact ⟨by rw [HE.out]; rfl, HK2.out⟩
                    · have hrb : ((rt : Int) == 0) = false := by rw [beq_eq_false_iff_ne]; omega
                      by_cases hm : bu < mt
                      · have HE : Hid (chk ⟨rk, bk, lv, qu, pk, bt, sh, mt, rt, bu, fl⟩ = 28) := by show _ = _; rw [HE4.out, if_neg (by simp), if_neg hr, if_pos hm]
                        have hmi : (bu : Int) < mt := by omega
                        clear hr hm
                        go_wp2
                        go_ret
                        exact ⟨by rw [HE.out]; rfl, HK2.out⟩
                      · have HE : Hid (chk ⟨rk, bk, lv, qu, pk, bt, sh, mt, rt, bu, fl⟩ = 0) := by show _ = _; rw [HE4.out, if_neg (by simp), if_neg hr, if_neg hm]
                        have hmi : ¬ (bu : Int) < mt := by omega
                        clear hr hm
                        go_wp2
                        go_ret
                        exact ⟨by rw [HE.out]; rfl, HK2.out⟩
                  · have HE : Hid (chk ⟨rk, bk, lv, qu, pk, bt, sh, mt, rt, bu, fl⟩ = ad) := by show _ = _; rw [HE4.out, if_pos ha]
                    have hab : (ad != 0) = true := by simpa using ha
                    clear ha
                    go_wp2
                    go_ret
                    exact ⟨by rw [HE.out]; rfl, HK2.out⟩
end Go.Proofs.YtlaakhfgidjofaaGreatDoor

namespace Go.Proofs.YtlaakhfgidjofaaGreatDoor
set_option linter.unusedVariables false
set_option linter.unusedSimpArgs false
open Go.RowKit
def u8s (l : List UInt8) : List Value := l.map fun c => .int .u8 (c.toNat : Int)
theorem str_nums (l : List UInt8) : strOfNums (l.map fun c => (c.toNat : Int)) = tx l := by
  apply str_ext
  rw [bl_tx]
  show (strOfNums _).data.toList = l
  rw [strOfNums_data, List.map_map]
  conv => rhs; rw [← List.map_id l]
  apply List.map_congr_left
  intro c _
  simp
theorem conv_u8s {P : Program} (src e dst : TypeId) (hs : P.underlying src = some (.slice e)) (he : P.underlying e = some (.int .u8)) (hd : P.underlying dst = some .string) {w : World} {b off n cap : Nat} {C : List Value} {T : TypeId} (hb : Blk w b C T) (l : List UInt8) (hl : C.drop off = u8s l) (hn : l.length = n) :
    (convert src dst (.slice (some ⟨b, off, none⟩) n cap)).run P w = .ok (.string (tx l)) w := by
  have h := run_convert_bytes_arg (P := P) w src e hs he b off n cap (l.map fun c => (c.toNat : Int)) (by simp [hn]) (fun i hi => by
    have h1 : (C.drop off)[i]? = some (.int .u8 (l[i]'(by omega)).toNat) := by rw [hl]; simp [u8s, hn ▸ hi]
    rw [List.getElem?_drop] at h1
    rw [hb.cell _ h1]
    simp [List.getD, hn ▸ hi]) dst hd
  rw [h, str_nums]
theorem cat_run {P : Program} (a b : ByteArray) (h : a.size + b.size ≤ 1000000) (W : World) : (Op.stringOp .add a b).run P W = .ok (.string (a ++ b)) W := run_string_add_sum W a b (by omega)
theorem bl_app (a b : ByteArray) : bl (a ++ b) = bl a ++ bl b := by simp [bl]

theorem ret_pair {k1 k2 : IntKind} {a : Nat × Int} {x : Nat} {y : Int} (h : a = (x, y)) : Ending.returned (.tuple #[.int k1 (x : Int), .int k2 y]) = .returned (.tuple #[.int k1 (a.1 : Int), .int k2 a.2]) := by rw [h]
theorem all_succ {l : List UInt8} {k : Nat} (h : k < l.length) : (l.take (k + 1)).all isDig = ((l.take k).all isDig && isDig l[k]) := by
  rw [List.take_succ_eq_append_getElem h]; simp only [List.all_append, List.all_cons, List.all_nil, Bool.and_true]
theorem all_bad {l : List UInt8} {k : Nat} (h : k < l.length) (hb : isDig l[k] = false) : l.all isDig = false := by
  rw [Bool.eq_false_iff]; intro ha
  rw [List.all_eq_true] at ha
  rw [ha _ (List.getElem_mem h)] at hb; cases hb
set_option maxHeartbeats 400000 in
theorem dAll (s : ByteArray) (w : World) (hs : s.size ≤ 1000000) : Calls Tryz.prog 179 #[.string s] w fun e w' => e = .returned (.bool ((bl s).all isDig && !(bl s).isEmpty)) ∧ w = w' := by
  go_enter Tryz.func179, Tryz.ntmps179
  go_wp2
  go_loop [6] (fun i => ∃ k : Nat, k ≤ s.size ∧ i = .int .i64 k ∧ Hid (((bl s).take k).all isDig = true)) (fun i => s.size - (intOf i).toNat)
  case atStart => exact ⟨0, Nat.zero_le _, rfl, rfl⟩
  case round =>
    obtain ⟨k, hk, rfl, hal⟩ := hrel
    by_cases hlt : k < s.size
    · have hl : k < (bl s).length := by rw [bl_len]; exact hlt
      have hg := bl_get s k hlt
      by_cases hd : 48 ≤ s[k].toNat ∧ s[k].toNat ≤ 57
      · have hn : Hid (((bl s).take (k + 1)).all isDig = true) := by
          have hd' : isDig (bl s)[k] = true := by rw [hg]; exact isDig_iff.2 hd
          show _ = true
          rw [all_succ hl, hal.out, hd']; rfl
        clear hg
        obtain ⟨h1, h2⟩ := hd
        go_wp2
        go_round
        case rel => exact ⟨k + 1, by omega, by go_num, hn⟩
        case measure => simp [intOf]; omega
      · have hn : Hid (((bl s).all isDig && !(bl s).isEmpty) = false) := by
          show _ = false
          rw [all_bad hl (by rw [hg]; exact isDig_not.2 hd)]; rfl
        clear hg
        by_cases h1 : 48 ≤ s[k].toNat
        · have h2 : 57 < s[k].toNat := by omega
          clear hd
          go_wp2
          go_ret
          exact ⟨ret_bool hn.out.symm, rfl⟩
        · clear hd
          go_wp2
          go_ret
          exact ⟨ret_bool hn.out.symm, rfl⟩
    · have hn : Hid (((bl s).all isDig && !(bl s).isEmpty) = !(bl s).isEmpty) := by
        have := hal.out
        rw [List.take_of_length_le (by rw [bl_len]; omega)] at this
        show _ = _
        rw [this]; rfl
      go_wp2
      go_ret
      refine ⟨ret_bool ?_, rfl⟩
      rw [hn.out, bl_nil]
set_option maxHeartbeats 1000000 in
theorem dRead (s : ByteArray) (w : World) (hs : s.size ≤ 1000000) : Calls Tryz.prog 174 #[.string s] w fun e w' => e = .returned (.tuple #[.int .u64 (rd (bl s)).1, .int .i64 (rd (bl s)).2]) ∧ w = w' := by
  have HA := Lib.hid (fun W => dAll s W hs)
  obtain ⟨al, hal⟩ : ∃ al, ((bl s).all isDig && !(bl s).isEmpty) = al := ⟨_, rfl⟩
  rw [hal] at HA
  cases al with
  | false =>
    have hr : Hid (rd (bl s) = (0, 3)) := by
      show _ = _
      unfold rd good; rw [hal]; rfl
    clear hal
    rw [hr.out]
    go_enter Tryz.func174, Tryz.ntmps174
    go_wp2_with (go_at_call 179; refine (HA.out _).mono ?_; rintro e w' ⟨rfl, rfl⟩)
    go_ret2
    exact ⟨rfl, rfl⟩
  | true =>
    have hal2 : (bl s).all isDig = true ∧ (bl s).isEmpty = false := by simpa using hal
    have hne : 0 < s.size := by
      have := hal2.2
      rw [← bl_len]
      cases e : bl s with
      | nil => rw [e] at this; cases this
      | cons a r => simp
    have hhd := head_get s hne
    have hdg : ∀ (k : Nat) (h : k < s.size), 48 ≤ s[k].toNat ∧ s[k].toNat ≤ 57 := fun k h => by
      have := List.all_eq_true.1 hal2.1 _ (List.getElem_mem (l := bl s) (by rw [bl_len]; exact h : k < (bl s).length))
      rw [bl_get s k h] at this
      exact isDig_iff.1 this
    have HDG := Lib.hid hdg
    by_cases hz : 1 < s.size ∧ s[0].toNat = 48
    · obtain ⟨h1, h0⟩ := hz
      have hr : Hid (rd (bl s) = (0, 3)) := by
        have hg : good (bl s) = false := by
          unfold good
          rw [hal, hhd, bl_len, show s[0] = 48 from UInt8.toNat_inj.1 h0]; simp [h1]
        show _ = _
        unfold rd; rw [hg]; rfl
      rw [hr.out]
      have h0' : ((s[0].toNat : Int) == 48) = true := by simp [h0]
      clear hal hal2 h0 hdg hhd
      go_enter Tryz.func174, Tryz.ntmps174
      go_wp2_with (go_at_call 179; refine (HA.out _).mono ?_; rintro e w' ⟨rfl, rfl⟩)
      go_ret2
      exact ⟨rfl, rfl⟩
    · have hgd : Hid (good (bl s) = true) := by
        show _ = true
        unfold good
        rw [hal, hhd, bl_len]
        by_cases h1 : 1 < s.size
        · have h0 : s[0].toNat ≠ 48 := fun e => hz ⟨h1, e⟩
          have : (s[0] == 48) = false := by rw [beq_eq_false_iff_ne]; intro e; apply h0; rw [e]; rfl
          simp [this]
        · simp [h1]
      have hcs : (1 < s.size ∧ ((s[0].toNat : Int) == 48) = false) ∨ ¬ 1 < s.size := by
        by_cases h1 : 1 < s.size
        · exact .inl ⟨h1, by simp; intro e; exact hz ⟨h1, by omega⟩⟩
        · exact .inr h1
      clear hal hal2 hdg hhd hz
      rcases hcs with ⟨h1, h0⟩ | h1
      all_goals
        go_enter Tryz.func174, Tryz.ntmps174
        go_wp2_with (go_at_call 179; refine (HA.out _).mono ?_; rintro e w' ⟨rfl, rfl⟩)
        go_loop [4, 22] (fun n i => ∃ k N : Nat, k ≤ s.size ∧ i = .int .i64 k ∧ n = .int .u64 N ∧ N ≤ 18446744073709551615 ∧ Hid (num ((bl s).take k) = N)) (fun _ i => s.size - (intOf i).toNat)
        case atStart => exact ⟨0, 0, Nat.zero_le _, rfl, rfl, by omega, rfl⟩
        case round =>
          obtain ⟨k, N, hk, rfl, rfl, hN, hnum⟩ := hrel
          by_cases hlt : k < s.size
          · have hs1 := num_succ (bl s) k (by rw [bl_len]; exact hlt)
            rw [bl_get s k hlt, hnum.out] at hs1
            obtain ⟨b1, b2⟩ := HDG.out k hlt
            have HS1 := Lib.hid hs1
            clear hs1
            by_cases hov : N * 10 + (s[k].toNat - 48) ≤ 18446744073709551615
            · go_wp2
              go_round
              case rel => exact ⟨k + 1, N * 10 + (s[k].toNat - 48), by omega, by go_num, by go_num, hov, HS1.out⟩
              case measure => simp [intOf]; omega
            · have hr : Hid (rd (bl s) = (0, 5)) := by
                have h2 := num_take (bl s) (k + 1)
                rw [HS1.out] at h2
                show _ = _
                unfold rd M64; rw [hgd.out, if_pos rfl, if_neg (by omega)]
              go_wp2
              go_ret2
              exact ⟨ret_pair hr.out, rfl⟩
          · have hr : Hid (rd (bl s) = (N, 0)) := by
              have h2 := hnum.out
              rw [List.take_of_length_le (by rw [bl_len]; omega)] at h2
              show _ = _
              unfold rd M64; rw [hgd.out, if_pos rfl, h2, if_pos (by omega)]
            go_wp2
            go_ret2
            exact ⟨ret_pair hr.out, rfl⟩

theorem put_len (k : Nat) : ∀ n, n < 10 ^ (k + 1) → (put n).length ≤ k + 1 := by
  induction k with
  | zero => intro n h; rw [put_lt (by simpa using h)]; simp
  | succ k ih =>
    intro n h
    by_cases h1 : n < 10
    · rw [put_lt h1]; simp
    · rw [put_ge h1, List.length_append]
      have := ih (n / 10) (by rw [Nat.pow_succ] at h; omega)
      simp only [List.length_cons, List.length_nil]; omega
theorem put_len20 (n : Nat) (h : n ≤ 18446744073709551615) : (put n).length ≤ 20 := put_len 19 n (by omega)
def Puts (n N a : Nat) (w wr : World) : Prop := ∃ (C : List Value) (t : List UInt8), Blk wr w.heap.size C 268 ∧ C.length = 20 ∧ C.drop a = u8s t ∧ put n = put N ++ t ∧ a + t.length = 20 ∧ Kp none' w wr
theorem drop_set_cons (C : List Value) (b : Nat) (v : Value) (h : b < C.length) : (C.set b v).drop b = v :: C.drop (b + 1) := by
  apply List.ext_getElem?
  intro i
  rw [List.getElem?_drop]
  cases i with
  | zero => simp [h]
  | succ i => rw [List.getElem?_set_ne (by omega), List.getElem?_cons_succ, List.getElem?_drop]; congr 1; omega
theorem hal20 : Tryz.prog.arrayLen 268 = 20 := by kernel_rfl
theorem hel20 : Tryz.prog.elem 268 = 5 := by kernel_rfl
theorem slice20 (b0 b : Nat) (hb : b < 20) (W : World) : (Instr.sliceAt 268 (.pointer (some ⟨b0, 0, none⟩)) (some (.int .i64 (b : Int))) none none).run Tryz.prog W = .ok (.slice (some ⟨b0, b, none⟩) (20 - b) (20 - b)) W := by
  rw [run_sliceAt_array_l W 268 ⟨b0, 0, none⟩ (by rw [hal20, hel20]; exact Tryz.underlying268) .i64 b (by omega) (by rw [hal20]; omega)]
  rw [hal20, hel20, Tryz.sizeOf5]
  simp [slicedAt]
  rw [if_neg (by omega)]
  unfold Addr.add; split <;> simp_all
set_option maxHeartbeats 1000000 in
theorem dPut (n : Nat) (hn : n ≤ 18446744073709551615) (w : World) : Calls Tryz.prog 97 #[.int .u64 n] w fun e w' => ∃ s, e = .returned (.string s) ∧ bl s = put n ∧ Kp none' w w' := by
  have h20 := put_len20 n hn
  have H20 := Lib.hid h20
  have hal := hal20
  clear h20
  go_enter Tryz.func97, Tryz.ntmps97
  go_wp2
  go_loopw [0, 4] (fun n0 at0 wr => ∃ N a : Nat, n0 = .int .u64 N ∧ at0 = .int .i64 a ∧ a ≤ 20 ∧ N ≤ 18446744073709551615 ∧ Hid (Puts n N a w wr)) (fun _ at0 _ => (intOf at0).toNat)
  case atStart =>
    refine ⟨n, 20, rfl, rfl, by omega, hn, _, [], Blk.new _ (List.replicate 20 (Value.int .u8 0)) _, by simp, by simp [u8s], by simp, by simp, (Kp.refl _ _).alloc _⟩
  case round =>
    obtain ⟨N, a, rfl, rfl, ha, hN, hp⟩ := hrel
    obtain ⟨C, t, hb, hl, hd, h1, h2, hk⟩ := hp.out
    have hpos : 0 < a := by
      have h3 := H20.out
      have h5 : 0 < (put N).length := by
        have h4 := put_ne N
        cases e : put N with
        | nil => exact absurd e h4
        | cons x r => simp
      rw [h1, List.length_append] at h3
      omega
    obtain ⟨b, rfl⟩ : ∃ b, a = b + 1 := ⟨a - 1, by omega⟩
    obtain ⟨v0, hv0⟩ : ∃ v0, C[b]? = some v0 := ⟨_, List.getElem?_eq_getElem (by omega)⟩
    have hc0 := hb.cell b hv0
    clear hv0
    have hf0 := hb.fz b
    have hb2 := hb.set b (.int .u8 (48 + (N : Int) % 10))
    have hd2 : (C.set b (.int .u8 (48 + (N : Int) % 10))).drop b = u8s (digit N :: t) := by
      rw [drop_set_cons _ _ _ (by omega), hd]
      unfold u8s
      rw [List.map_cons, digit_nat]; congr 2
    have hk2 := hk.set (p := ⟨w.heap.size, b, none⟩) (.inr (Nat.le_refl _)) (.int .u8 (48 + (N : Int) % 10))
    by_cases h10 : N < 10
    · have hz : ((N : Int) / 10 == 0) = true := by rw [beq_iff_eq]; omega
      have hcv := conv_u8s 108 5 9 Tryz.underlying108 Tryz.underlying5 Tryz.underlying9 (n := 20 - b) (cap := 20 - b) hb2 (digit N :: t) hd2 (by simp; omega)
      have hsl := slice20 w.heap.size b (by omega)
      have HP := Lib.hid (show bl (tx (digit N :: t)) = put n from by rw [bl_tx, h1, put_lt h10]; rfl)
      have HK := Lib.hid hk2
      clear hk2 hd2 hb2 hk h1 h2 hd hb hl hp
      go_wp2
      go_ret
      exact ⟨_, rfl, HP.out, HK.out⟩
    · have hz : ((N : Int) / 10 == 0) = false := by rw [beq_eq_false_iff_ne]; omega
      have HP : Hid (Puts n (N / 10) b w (wr.setCell ⟨w.heap.size, b, none⟩ (.int .u8 (48 + (N : Int) % 10)))) :=
        ⟨_, digit N :: t, hb2, by simp [hl], hd2, by rw [h1, put_ge h10]; simp, by simp; omega, hk2⟩
      clear hk2 hd2 hb2 hk h1 h2 hd hb hl hp
      go_wp2
      go_roundw
      case rel => exact ⟨N / 10, b, by simp, rfl, by omega, by omega, HP.out⟩
      case measure => simp [intOf]
def signs : ByteArray := ⟨#[48, 49, 50, 51, 52, 53, 54, 55, 56, 57]⟩

set_option maxHeartbeats 400000 in
theorem dWorth (c : Nat) (hc : c < 256) (w : World) : Calls Tryz.prog 96 #[.int .u8 c] w fun e w' => e = .returned (.int .u64 (worthN (UInt8.ofNat c))) ∧ w = w' := by
  have hcc : (UInt8.ofNat c).toNat = c := by rw [UInt8.toNat_ofNat']; omega
  unfold worthN
  rw [hcc]
  clear hcc
  by_cases h1 : c = 75
  · subst h1
    go_enter Tryz.func96, Tryz.ntmps96
    go_wp2
    go_ret
    exact ⟨rfl, rfl⟩
  · by_cases h2 : c = 77
    · subst h2
      go_enter Tryz.func96, Tryz.ntmps96
      go_wp2
      go_ret
      exact ⟨rfl, rfl⟩
    · by_cases h3 : c = 71
      · subst h3
        go_enter Tryz.func96, Tryz.ntmps96
        go_wp2
        go_ret
        exact ⟨rfl, rfl⟩
      · have b1 : ((c : Int) == 75) = false := by simp; omega
        have b2 : ((c : Int) == 77) = false := by simp; omega
        have b3 : ((c : Int) == 71) = false := by simp; omega
        rw [if_neg h1, if_neg h2, if_neg h3]
        clear h1 h2 h3
        go_enter Tryz.func96, Tryz.ntmps96
        go_wp2
        go_ret
        exact ⟨rfl, rfl⟩
end Go.Proofs.YtlaakhfgidjofaaGreatDoor
