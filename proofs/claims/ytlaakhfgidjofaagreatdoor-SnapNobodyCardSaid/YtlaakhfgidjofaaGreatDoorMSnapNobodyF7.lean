/- Walk for layer 24: conf.Put. -/
import Derived.Test.YtlaakhfgidjofaaGreatDoorMSnapNobodyF5
import Derived.Test.YtlaakhfgidjofaaGreatDoorMSnapNobodyF6
import Derived.Laws.EntriesVeiled
import Derived.Deep.DeepCutAuto
namespace Go.Proofs.YtlaakhfgidjofaaGreatDoor
set_option linter.unusedVariables false
set_option linter.unusedSimpArgs false
open Go Go.RowKit Go.Shelf
theorem own_fullC {w : World} {base : Nat} {e : TypeId} {size : Nat} {v : Value} {n : Nat} {xs : List Value} (h : w.ownsRow base e size v n xs) : ∀ ao m c, v = .slice ao m c → m ≤ c := by
  rcases h.2 with ⟨rfl, h⟩ | ⟨g, cap, cur, rfl, hg, _, h1, h2, _⟩
  · intro ao m c e; cases e; exact Nat.le_refl _
  · intro ao m c e; cases e; exact h1
theorem kr_ex (m : Nat) (h : m ≤ 2) : ∃ s : ByteArray, bl s = krs.getD m [] ∧ s.size ≤ 10 ∧ ∀ w, Calls Tryz.prog 49 #[] w fun e w' => e = .returned (.slice (some ⟨w.heap.size, 0, none⟩) 3 3) ∧ w'.cell? ⟨w.heap.size, m, none⟩ = some (.string s) ∧ Kp none' w w' := by
  have hm : m = 0 ∨ m = 1 ∨ m = 2 := by omega
  rcases hm with rfl | rfl | rfl
  · exact ⟨⟨#[115, 116, 102, 113]⟩, rfl, by decide, fun w => (cNames w).mono fun e w' h => ⟨h.1, h.2.1.cell 0 rfl, h.2.2⟩⟩
  · exact ⟨⟨#[101, 100, 102]⟩, rfl, by decide, fun w => (cNames w).mono fun e w' h => ⟨h.1, h.2.1.cell 1 rfl, h.2.2⟩⟩
  · exact ⟨⟨#[115, 114, 115]⟩, rfl, by decide, fun w => (cNames w).mono fun e w' h => ⟨h.1, h.2.1.cell 2 rfl, h.2.2⟩⟩
theorem kb_ex (m : Nat) (h : m ≤ 2) : ∃ s : ByteArray, bl s = kbs.getD m [] ∧ s.size ≤ 10 ∧ ∀ w, Calls Tryz.prog 50 #[] w fun e w' => e = .returned (.slice (some ⟨w.heap.size, 0, none⟩) 3 3) ∧ w'.cell? ⟨w.heap.size, m, none⟩ = some (.string s) ∧ Kp none' w w' := by
  have hm : m = 0 ∨ m = 1 ∨ m = 2 := by omega
  rcases hm with rfl | rfl | rfl
  · exact ⟨⟨#[104, 101, 97, 112]⟩, rfl, by decide, fun w => (cBacks w).mono fun e w' h => ⟨h.1, h.2.1.cell 0 rfl, h.2.2⟩⟩
  · exact ⟨⟨#[99, 97, 108, 101, 110, 100, 97, 114]⟩, rfl, by decide, fun w => (cBacks w).mono fun e w' h => ⟨h.1, h.2.1.cell 1 rfl, h.2.2⟩⟩
  · exact ⟨⟨#[113, 117, 101, 117, 101, 115]⟩, rfl, by decide, fun w => (cBacks w).mono fun e w' h => ⟨h.1, h.2.1.cell 2 rfl, h.2.2⟩⟩
structure PI (w0 : World) (cs : List Value) (b sb cb : Nat) (L : List UInt8) (W : World) : Prop where
  bd : Bd b b L W
  say : Blk W sb [.func (.func 43) #[] #[.pointer (some ⟨b, 0, none⟩)]] 117
  cfg : Blk W cb cs 25
  lo : w0.heap.size ≤ b
  kp : Kp none' w0 W
theorem PI.step {w0 : World} {cs : List Value} {b sb cb : Nat} {L L' : List UInt8} {W W' : World} (h : PI w0 cs b sb cb L W) (hb : Bd b b L' W') (k : KB b b W W') : PI w0 cs b sb cb L' W' :=
  ⟨hb, h.say.kb k (sb_ne h.bd h.say (by decide)) (by decide), h.cfg.kb k (sb_ne h.bd h.cfg (by decide)) (by decide), h.lo, KB.none h.kp k h.lo (Nat.le_refl _)⟩
theorem PI.old {w0 : World} {cs : List Value} {b sb cb : Nat} {L : List UInt8} {W W' : World} (h : PI w0 cs b sb cb L W) (k : Kp none' W W') : PI w0 cs b sb cb L W' :=
  ⟨h.bd.old k, h.say.kp k (fun x => x), h.cfg.kp k (fun x => x), h.lo, h.kp.trans k⟩
theorem PI.say1 {w0 : World} {cs : List Value} {b sb cb : Nat} {L : List UInt8} {W : World} (h : PI w0 cs b sb cb L W) (nm s : ByteArray) (hn : nm.size ≤ 20) (hs : s.size ≤ 10) (hL : L.length ≤ 100000) {g : Nat} (hg : W.heap[g]? = some (.cells #[.string s] 9 (0, 0))) :
    Calls Tryz.prog 43 #[.string nm, .slice (some ⟨g, 0, none⟩) 1 1, .pointer (some ⟨b, 0, none⟩)] W fun e w' => e = .returned (.tuple #[]) ∧ PI w0 cs b sb cb (L ++ (bl nm ++ 32 :: (bl s ++ [10]))) w' := by
  have hjl : joinL ([s].map bl) = bl s := rfl
  have := cSay nm hn [s] (by simp) (by rw [hjl, bl_len]; omega) (.slice (some ⟨g, 0, none⟩) 1 1) h.bd hL
    ⟨rfl, by simp, _, _, rfl, fun i x hx => ⟨g, 0, rfl, by
      cases i with
      | zero => simp [strs] at hx; subst hx; simp [World.cell?, hg]
      | succ i => simp [strs] at hx⟩⟩ (fun ao m c e => by cases e; exact Nat.le_refl _)
  rw [hjl] at this
  exact this.mono fun e w' hh => ⟨hh.1, h.step hh.2.1 hh.2.2⟩
theorem PI.count {w0 : World} {cs : List Value} {b sb cb : Nat} {L : List UInt8} {W : World} (h : PI w0 cs b sb cb L W) (nm : ByteArray) (hn : nm.size ≤ 20) (n : Nat) (hnn : n ≤ 9223372036854775807) (hL : L.length ≤ 100000) :
    Calls Tryz.prog 46 #[.string nm, .int .i64 n, .pointer (some ⟨sb, 0, none⟩)] W fun e w' => e = .returned (.tuple #[]) ∧ PI w0 cs b sb cb (L ++ (bl nm ++ 32 :: (putU n ++ [10]))) w' :=
  (cCount nm hn n hnn h.bd hL h.say).mono fun e w' hh => ⟨hh.1, h.step hh.2.1 hh.2.2⟩
theorem PI.amount {w0 : World} {cs : List Value} {b sb cb : Nat} {L : List UInt8} {W : World} (h : PI w0 cs b sb cb L W) (nm : ByteArray) (hn : nm.size ≤ 20) (n : Nat) (hnn : n ≤ 18446744073709551615) (hL : L.length ≤ 100000) :
    Calls Tryz.prog 48 #[.string nm, .int .u64 n, .pointer (some ⟨sb, 0, none⟩)] W fun e w' => e = .returned (.tuple #[]) ∧ PI w0 cs b sb cb (L ++ (bl nm ++ 32 :: (putU n ++ [10]))) w' :=
  (cAmount nm hn n hnn h.bd hL h.say).mono fun e w' hh => ⟨hh.1, h.step hh.2.1 hh.2.2⟩
theorem PI.flow {w0 : World} {cs : List Value} {b sb cb : Nat} {L : List UInt8} {W : World} (h : PI w0 cs b sb cb L W) (f : FlR) (hf : f.ok) (u0 u1 u2 u3 u4 : ByteArray) (t0 : bl u0 = putU f.id) (t1 : bl u1 = putU f.cost) (t2 : bl u2 = putU f.budget) (t3 : bl u3 = putU f.size) (t4 : bl u4 = putU f.cap) (hL : L.length ≤ 100000) {B : Nat} {vv : Value} (ho : W.ownsRow B 9 1 vv 5 (strs [u0, u1, u2, u3, u4])) :
    Calls Tryz.prog 43 #[.string ⟨#[102, 108, 111, 119]⟩, vv, .pointer (some ⟨b, 0, none⟩)] W fun e w' => e = .returned (.tuple #[]) ∧ PI w0 cs b sb cb (L ++ flT f) w' := by
  have hjl : bl ⟨#[102, 108, 111, 119]⟩ ++ 32 :: (joinL ([u0, u1, u2, u3, u4].map bl) ++ [10]) = flT f := by
    rw [flT_eq]
    rw [← t0, ← t1, ← t2, ← t3, ← t4]
    simp [joinL, bl]
  obtain ⟨g0, g1, g2, g3, g4⟩ := hf
  have l0 := putU_len f.id (by omega)
  have l1 := putU_len f.cost (by omega)
  have l2 := putU_len f.budget (by omega)
  have l3 := putU_len f.size (by omega)
  have l4 := putU_len f.cap (by omega)
  have := cSay ⟨#[102, 108, 111, 119]⟩ (by decide) [u0, u1, u2, u3, u4] (by simp) (by simp [joinL, t0, t1, t2, t3, t4]; omega) vv h.bd hL (own_sl ho) (own_fullC ho)
  rw [hjl] at this
  exact this.mono fun e w' hh => ⟨hh.1, h.step hh.2.1 hh.2.2⟩
def preT (c : CfR) (n : Nat) : List UInt8 := (List.range n).flatMap (lnT c)
theorem preT_succ (c : CfR) (n : Nat) : preT c (n + 1) = preT c n ++ lnT c n := by unfold preT; rw [List.range_succ, List.flatMap_append]; simp
theorem preT_hd (c : CfR) : preT c 10 = hdT c := by
  have h0 : preT c 0 = [] := rfl
  rw [preT_succ c 9, preT_succ c 8, preT_succ c 7, preT_succ c 6, preT_succ c 5, preT_succ c 4, preT_succ c 3, preT_succ c 2, preT_succ c 1, preT_succ c 0, h0]
  simp [hdT]
theorem lnT_len (c : CfR) (hc : c.ok) (h : ChkOk c) (i : Nat) (hi : i < 10) : (lnT c i).length ≤ 60 := by
  have b5 := hc.bytes; have b7 := hc.mtu; have b8 := hc.rate; have b9 := hc.burst
  unfold M64 at b5 b7 b8 b9
  obtain ⟨p0, p1, p2, p3, p4, p6, p10⟩ := h
  have hk : ∀ m, (krs.getD m []).length ≤ 10 := fun m => by
    match m with
    | 0 => decide
    | 1 => decide
    | 2 => decide
    | m + 3 => simp [krs]
  have hkb : ∀ m, (kbs.getD m []).length ≤ 10 := fun m => by
    match m with
    | 0 => decide
    | 1 => decide
    | 2 => decide
    | m + 3 => simp [kbs]
  have hn : (nms.getD i []).length ≤ 10 := by
    have : ∀ i, i < 10 → (nms.getD i []).length ≤ 10 := by decide
    exact this i hi
  have hw : (wordN c i).length ≤ 30 := by
    unfold wordN
    split
    · have := hk (c.rank.toNat - 1); omega
    · split
      · have := hkb (c.back.toNat - 1); omega
      · refine putU_len _ ?_
        have : i = 2 ∨ i = 3 ∨ i = 4 ∨ i = 5 ∨ i = 6 ∨ i = 7 ∨ i = 8 ∨ i = 9 := by omega
        rcases this with rfl | rfl | rfl | rfl | rfl | rfl | rfl | rfl <;> simp only [valN] <;> omega
  unfold lnT
  rw [List.length_append, List.length_cons, List.length_append, List.length_singleton]; omega
theorem preT_len (c : CfR) (hc : c.ok) (h : ChkOk c) : ∀ n, n ≤ 10 → (preT c n).length ≤ 60 * n
  | 0, _ => by simp [preT]
  | n + 1, hn => by
    have := preT_len c hc h n (by omega)
    have := lnT_len c hc h n (by omega)
    rw [preT_succ, List.length_append]; omega
theorem flT_len (f : FlR) (h : f.ok) : (flT f).length ≤ 200 := by
  obtain ⟨g0, g1, g2, g3, g4⟩ := h
  have h0 := putU_len f.id (by omega)
  have h1 := putU_len f.cost (by omega)
  have h2 := putU_len f.budget (by omega)
  have h3 := putU_len f.size (by omega)
  have h4 := putU_len f.cap (by omega)
  rw [flT_eq]; simp; omega
theorem fls_len : ∀ (l : List FlR), (∀ f ∈ l, f.ok) → (l.flatMap flT).length ≤ 200 * l.length
  | [], _ => by simp
  | f :: r, h => by
    have h1 := flT_len f (h f (by simp))
    have h2 := fls_len r (fun x hx => h x (by simp [hx]))
    rw [List.flatMap_cons, List.length_append, List.length_cons]; omega
theorem ixU0 (a b c d e : Value) (w : World) : (Instr.index 121 (.agg #[a, b, c, d, e]) (.int .i64 0)).run Tryz.prog w = .ok a w := by kernel_rfl
theorem ixU1 (a b c d e : Value) (w : World) : (Instr.index 121 (.agg #[a, b, c, d, e]) (.int .i64 1)).run Tryz.prog w = .ok b w := by kernel_rfl
theorem ixU2 (a b c d e : Value) (w : World) : (Instr.index 121 (.agg #[a, b, c, d, e]) (.int .i64 2)).run Tryz.prog w = .ok c w := by kernel_rfl
theorem ixU3 (a b c d e : Value) (w : World) : (Instr.index 121 (.agg #[a, b, c, d, e]) (.int .i64 3)).run Tryz.prog w = .ok d w := by kernel_rfl
theorem ixU4 (a b c d e : Value) (w : World) : (Instr.index 121 (.agg #[a, b, c, d, e]) (.int .i64 4)).run Tryz.prog w = .ok e w := by kernel_rfl
set_option maxRecDepth 100000 in
set_option maxHeartbeats 8000000 in
theorem gPutC (c : CfR) (hc : c.ok) (v : Value) (w : World) (h : Sl w v c.flows.length 5 (c.flows.flatMap enFl)) : Calls Tryz.prog 18 #[.agg (enC c v).toArray] w fun e w' => e = .returned (.tuple #[.string (tx (putT c)), .int .i64 (chk c)]) ∧ Kp none' w w' := by
  have GC := Lib.hid (fun W hs => gChk c hc v W hs)
  have HS := Lib.hid h
  have hb0 := Blk.new w (enC c v) 25
  have hk0 := (Kp.refl none' w).alloc (.cells (enC c v).toArray 25)
  have hmf : ∀ (fn : Fn) (first cap : Array Value) (w : World), (Instr.makeFunc fn first cap).run Tryz.prog w = .ok (.func fn first cap) w := fun _ _ _ _ => rfl
  have HEC : Hid (enC c v = enC c v) := rfl
  by_cases h0 : chk c = 0
  · have HPT : Hid (putT c = textC c) := by show _ = _; unfold putT; rw [if_pos h0]
    have hck := chk_ok h0
    have HPL := Lib.hid (preT_len c hc hck)
    have HFO := Lib.hid hc.flows
    obtain ⟨p0, p1, p2, p3, p4, p6, p10⟩ := hck
    have b5 := hc.bytes; have b7 := hc.mtu; have b8 := hc.rate; have b9 := hc.burst
    unfold M64 at b5 b7 b8 b9
    rw [h0] at GC ⊢
    clear h0 hc
    unfold enC at hb0 hk0 GC ⊢
    obtain ⟨n0, i0⟩ : ∃ n : Nat, c.rank = (n : Int) + 1 := ⟨c.rank.toNat - 1, by omega⟩
    obtain ⟨n1, i1⟩ : ∃ n : Nat, c.back = (n : Int) + 1 := ⟨c.back.toNat - 1, by omega⟩
    obtain ⟨n2, i2⟩ : ∃ n : Nat, c.levels = n := ⟨c.levels.toNat, by omega⟩
    obtain ⟨n3, i3⟩ : ∃ n : Nat, c.queues = n := ⟨c.queues.toNat, by omega⟩
    obtain ⟨n4, i4⟩ : ∃ n : Nat, c.packets = n := ⟨c.packets.toNat, by omega⟩
    obtain ⟨n5, i5⟩ : ∃ n : Nat, c.bytes = n := ⟨_, rfl⟩
    obtain ⟨n6, i6⟩ : ∃ n : Nat, c.share = n := ⟨c.share.toNat, by omega⟩
    obtain ⟨n7, i7⟩ : ∃ n : Nat, c.mtu = n := ⟨_, rfl⟩
    obtain ⟨n8, i8⟩ : ∃ n : Nat, c.rate = n := ⟨_, rfl⟩
    obtain ⟨n9, i9⟩ : ∃ n : Nat, c.burst = n := ⟨_, rfl⟩
    obtain ⟨s0, t0, z0, N0⟩ := kr_ex n0 (by omega)
    obtain ⟨s1, t1, z1, N1⟩ := kb_ex n1 (by omega)
    have HT0 : Hid (preT c 0 ++ (bl ⟨#[114, 97, 110, 107]⟩ ++ 32 :: (bl s0 ++ [10])) = preT c 1) := by show _ = _; rw [preT_succ, t0]; simp [lnT, wordN, nms, i0, bl]
    have HT1 : Hid (preT c 1 ++ (bl ⟨#[98, 97, 99, 107]⟩ ++ 32 :: (bl s1 ++ [10])) = preT c 2) := by show _ = _; rw [preT_succ c 1, t1]; simp [lnT, wordN, nms, i1, bl]
    have HT2 : Hid (preT c 2 ++ (bl ⟨#[108, 101, 118, 101, 108, 115]⟩ ++ 32 :: (putU n2 ++ [10])) = preT c 3) := by show _ = _; rw [preT_succ c 2]; simp [lnT, wordN, valN, nms, i2, bl]
    have HT3 : Hid (preT c 3 ++ (bl ⟨#[113, 117, 101, 117, 101, 115]⟩ ++ 32 :: (putU n3 ++ [10])) = preT c 4) := by show _ = _; rw [preT_succ c 3]; simp [lnT, wordN, valN, nms, i3, bl]
    have HT4 : Hid (preT c 4 ++ (bl ⟨#[112, 97, 99, 107, 101, 116, 115]⟩ ++ 32 :: (putU n4 ++ [10])) = preT c 5) := by show _ = _; rw [preT_succ c 4]; simp [lnT, wordN, valN, nms, i4, bl]
    have HT5 : Hid (preT c 5 ++ (bl ⟨#[98, 121, 116, 101, 115]⟩ ++ 32 :: (putU n5 ++ [10])) = preT c 6) := by show _ = _; rw [preT_succ c 5]; simp [lnT, wordN, valN, nms, i5, bl]
    have HT6 : Hid (preT c 6 ++ (bl ⟨#[115, 104, 97, 114, 101]⟩ ++ 32 :: (putU n6 ++ [10])) = preT c 7) := by show _ = _; rw [preT_succ c 6]; simp [lnT, wordN, valN, nms, i6, bl]
    have HT7 : Hid (preT c 7 ++ (bl ⟨#[109, 116, 117]⟩ ++ 32 :: (putU n7 ++ [10])) = preT c 8) := by show _ = _; rw [preT_succ c 7]; simp [lnT, wordN, valN, nms, i7, bl]
    have HT8 : Hid (preT c 8 ++ (bl ⟨#[114, 97, 116, 101]⟩ ++ 32 :: (putU n8 ++ [10])) = preT c 9) := by show _ = _; rw [preT_succ c 8]; simp [lnT, wordN, valN, nms, i8, bl]
    have HT9 : Hid (preT c 9 ++ (bl ⟨#[98, 117, 114, 115, 116]⟩ ++ 32 :: (putU n9 ++ [10])) = preT c 10) := by show _ = _; rw [preT_succ c 9]; simp [lnT, wordN, valN, nms, i9, bl]
    obtain ⟨fl, ifl⟩ : ∃ l, c.flows = l := ⟨_, rfl⟩
    have HTX : Hid (textC c = preT c 10 ++ fl.flatMap flT) := by show _ = _; rw [textC_eq, preT_hd, ifl]
    rw [i0, i1, i2, i3, i4, i5, i6, i7, i8, i9] at hb0 hk0 GC ⊢
    rw [ifl] at HS HFO GC p10
    rw [i0] at p0; rw [i1] at p1; rw [i2] at p2; rw [i3] at p3; rw [i4] at p4; rw [i5] at b5; rw [i6] at p6; rw [i7] at b7; rw [i8] at b8; rw [i9] at b9
    have M0 := Lib.hid N0; have M1 := Lib.hid N1
    have HB0 := Lib.hid hb0; have HK0 := Lib.hid hk0
    clear i0 i1 i2 i3 i4 i5 i6 i7 i8 i9 ifl h hb0 hk0 t0 t1 N0 N1 HEC
    go_enter Tryz.func18, Tryz.ntmps18
    go_wp2_with fail
    refine (GC.out _ (HS.out.old HK0.out)).mono ?_
    rintro e w1 ⟨rfl, k1⟩
    have HK1 := Lib.hid (HK0.out.trans k1); have HB1 := Lib.hid (HB0.out.kp k1 (fun x => x))
    clear k1 GC HK0 HB0
    obtain ⟨cb, hcb⟩ : ∃ cb, w.heap.size = cb := ⟨_, rfl⟩
    rw [hcb] at HB1 ⊢
    have hsb := Blk.new (w1.alloc (.cells #[.pointer none, .slice none 0 0] 110)) [.func (.func 43) #[] #[.pointer (some ⟨w1.heap.size, 0, none⟩)]] 117
    rw [World.size_alloc] at hsb
    have hPI : PI w [.int .i64 ((n0 : Int) + 1), .int .i64 ((n1 : Int) + 1), .int .i64 n2, .int .i64 n3, .int .i64 n4, .int .u64 n5, .int .i64 n6, .int .u64 n7, .int .u64 n8, .int .u64 n9, v] w1.heap.size (w1.heap.size + 1) cb (preT c 0) ((w1.alloc (.cells #[.pointer none, .slice none 0 0] 110)).alloc (.cells #[.func (.func 43) #[] #[.pointer (some ⟨w1.heap.size, 0, none⟩)]] 117)) :=
      ⟨(Bd.new w1 w1.heap.size (Nat.le_refl _)).old ((Kp.refl none' _).alloc _), hsb, (HB1.out.alloc _).alloc _, HK1.out.size, (HK1.out.alloc _).alloc _⟩
    have HPI := Lib.hid hPI
    clear hsb hPI hcb
    go_wp2_with fail
    generalize (w1.alloc (.cells #[.pointer none, .slice none 0 0] 110)).alloc (.cells #[.func (.func 43) #[] #[.pointer (some ⟨w1.heap.size, 0, none⟩)]] 117) = w3 at *
    generalize w1.heap.size = b at *
    obtain ⟨sb, hsb⟩ : ∃ sb, b + 1 = sb := ⟨_, rfl⟩
    rw [hsb] at HPI ⊢
    clear hsb HB1 HK1
    have HL0 : Hid (∀ n, n ≤ 10 → (preT c n).length ≤ 100000) := fun n hn => by have := HPL.out n hn; omega
    have a0 : IntKind.i64.wrap ((n0 : Int) + 1 - 1) = n0 := by rw [IntWalk.i64_in _ (by omega)]; omega
    have a1 : IntKind.i64.wrap ((n1 : Int) + 1 - 1) = n1 := by rw [IntWalk.i64_in _ (by omega)]; omega
    have a2 : IntKind.i64.wrap (n0 : Int) = n0 := by rw [IntWalk.i64_in _ (by omega)]
    have a3 : IntKind.i64.wrap (n1 : Int) = n1 := by rw [IntWalk.i64_in _ (by omega)]
    have l0 : (0 : Int) ≤ n0 := by omega
    have l1 : (0 : Int) ≤ n1 := by omega
    have l2 : (n0 : Int) < 3 := by omega
    have l3 : (n1 : Int) < 3 := by omega
    have e0 := HPI.out.say.cell 0 rfl
    have e1 := HPI.out.cfg.cell 0 rfl
    go_cut [] (fun wx => PI w [.int .i64 ((n0 : Int) + 1), .int .i64 ((n1 : Int) + 1), .int .i64 n2, .int .i64 n3, .int .i64 n4, .int .u64 n5, .int .i64 n6, .int .u64 n7, .int .u64 n8, .int .u64 n9, v] b sb cb (preT c 1) wx)
    case first =>
      go_region_with (first
          | (go_at_call 49; refine (M0.out _).mono ?_; rintro e w4 ⟨rfl, c4, k4⟩; replace c4 : w4.cell? ⟨w3.heap.size, n0, none⟩ = some (.string s0) := c4; have d0 := k4.cell (a := ⟨sb, 0, none⟩) e0 (fun x => x); have d1 := k4.cell (a := ⟨cb, 0, none⟩) e1 (fun x => x); have d2 := fun o => ((Kp.refl none' w4).alloc o).cell (a := ⟨sb, 0, none⟩) d0 (fun x => x); have d3 := fun o => ((Kp.refl none' w4).alloc o).cell (a := ⟨cb, 0, none⟩) d1 (fun x => x); have HP4 := Lib.hid (HPI.out.old ((Kp.refl none' _).drew.trans k4)); clear k4)
          | (go_at_call 43; refine ((HP4.out.old ((Kp.refl none' _).alloc _)).say1 _ s0 (by decide) z0 (HL0.out 0 (by omega)) (heap_newC _ _ (by simp))).mono ?_; rintro e w5 ⟨rfl, hp5⟩; rw [HT0.out] at hp5; have HP5 := Lib.hid hp5; clear hp5))
      all_goals
        go_wp2_with fail
        go_meet
        exact HP5.out
    replace HPI := Lib.hid hcut
    rename_i wc
    generalize wc = w4 at *
    clear hcut e0 e1
    have e0 := HPI.out.say.cell 0 rfl
    have e1 := HPI.out.cfg.cell 1 rfl
    go_upto_region 9 with fail
    go_cut [] (fun wx => PI w [.int .i64 ((n0 : Int) + 1), .int .i64 ((n1 : Int) + 1), .int .i64 n2, .int .i64 n3, .int .i64 n4, .int .u64 n5, .int .i64 n6, .int .u64 n7, .int .u64 n8, .int .u64 n9, v] b sb cb (preT c 2) wx)
    case first =>
      go_region_with (first
          | (go_at_call 50; refine (M1.out _).mono ?_; rintro e w5 ⟨rfl, c4, k4⟩; replace c4 : w5.cell? ⟨w4.heap.size, n1, none⟩ = some (.string s1) := c4; have d0 := k4.cell (a := ⟨sb, 0, none⟩) e0 (fun x => x); have d1 := k4.cell (a := ⟨cb, 1, none⟩) e1 (fun x => x); have d2 := fun o => ((Kp.refl none' w5).alloc o).cell (a := ⟨sb, 0, none⟩) d0 (fun x => x); have d3 := fun o => ((Kp.refl none' w5).alloc o).cell (a := ⟨cb, 1, none⟩) d1 (fun x => x); have HP4 := Lib.hid (HPI.out.old ((Kp.refl none' _).drew.trans k4)); clear k4)
          | (go_at_call 43; refine ((HP4.out.old ((Kp.refl none' _).alloc _)).say1 _ s1 (by decide) z1 (HL0.out 1 (by omega)) (heap_newC _ _ (by simp))).mono ?_; rintro e w6 ⟨rfl, hp5⟩; rw [HT1.out] at hp5; have HP5 := Lib.hid hp5; clear hp5))
      all_goals
        go_wp2_with fail
        go_meet
        exact HP5.out
    replace HPI := Lib.hid hcut
    rename_i wc
    generalize wc = w5 at *
    clear hcut e0 e1
    have e0 := HPI.out.cfg.cell 2 rfl
    go_wp2_with fail
    refine (HPI.out.count _ (by decide) n2 (by omega) (HL0.out 2 (by omega))).mono ?_
    rintro e w6 ⟨rfl, hp⟩
    rw [HT2.out] at hp
    replace HPI := Lib.hid hp
    clear hp e0
    have e0 := HPI.out.cfg.cell 3 rfl
    go_wp2_with fail
    refine (HPI.out.count _ (by decide) n3 (by omega) (HL0.out 3 (by omega))).mono ?_
    rintro e w7 ⟨rfl, hp⟩
    rw [HT3.out] at hp
    replace HPI := Lib.hid hp
    clear hp e0
    have e0 := HPI.out.cfg.cell 4 rfl
    go_wp2_with fail
    refine (HPI.out.count _ (by decide) n4 (by omega) (HL0.out 4 (by omega))).mono ?_
    rintro e w8 ⟨rfl, hp⟩
    rw [HT4.out] at hp
    replace HPI := Lib.hid hp
    clear hp e0
    have e0 := HPI.out.cfg.cell 5 rfl
    go_wp2_with fail
    refine (HPI.out.amount _ (by decide) n5 (by omega) (HL0.out 5 (by omega))).mono ?_
    rintro e w9 ⟨rfl, hp⟩
    rw [HT5.out] at hp
    replace HPI := Lib.hid hp
    clear hp e0
    have e0 := HPI.out.cfg.cell 6 rfl
    go_wp2_with fail
    refine (HPI.out.count _ (by decide) n6 (by omega) (HL0.out 6 (by omega))).mono ?_
    rintro e w10 ⟨rfl, hp⟩
    rw [HT6.out] at hp
    replace HPI := Lib.hid hp
    clear hp e0
    have e0 := HPI.out.cfg.cell 7 rfl
    go_wp2_with fail
    refine (HPI.out.amount _ (by decide) n7 (by omega) (HL0.out 7 (by omega))).mono ?_
    rintro e w11 ⟨rfl, hp⟩
    rw [HT7.out] at hp
    replace HPI := Lib.hid hp
    clear hp e0
    have e0 := HPI.out.cfg.cell 8 rfl
    go_wp2_with fail
    refine (HPI.out.amount _ (by decide) n8 (by omega) (HL0.out 8 (by omega))).mono ?_
    rintro e w12 ⟨rfl, hp⟩
    rw [HT8.out] at hp
    replace HPI := Lib.hid hp
    clear hp e0
    have e0 := HPI.out.cfg.cell 9 rfl
    go_wp2_with fail
    refine (HPI.out.amount _ (by decide) n9 (by omega) (HL0.out 9 (by omega))).mono ?_
    rintro e w13 ⟨rfl, hp⟩
    rw [HT9.out] at hp
    replace HPI := Lib.hid hp
    clear hp e0
    clear a0 a1 a2 a3 l0 l1 l2 l3 M0 M1 HT0 HT1 HT2 HT3 HT4 HT5 HT6 HT7 HT8 HT9 z0 z1
    obtain ⟨fo, fcap, rfl⟩ : ∃ ao cap, v = .slice ao fl.length cap := by obtain ⟨ao, cap, rfl, _⟩ := HS.out.is; exact ⟨_, _, rfl⟩
    have e10 := HPI.out.cfg.cell 10 rfl
    go_wp2_with fail
    clear e10
    go_loopw [75] (fun i0 wr => ∃ k : Nat, i0 = .int .i64 k ∧ k ≤ fl.length ∧ Hid (PI w [.int .i64 ((n0 : Int) + 1), .int .i64 ((n1 : Int) + 1), .int .i64 n2, .int .i64 n3, .int .i64 n4, .int .u64 n5, .int .i64 n6, .int .u64 n7, .int .u64 n8, .int .u64 n9, .slice fo fl.length fcap] b sb cb (preT c 10 ++ (fl.take k).flatMap flT) wr)) (fun i0 _ => fl.length - (intOf i0).toNat)
    case atStart => exact ⟨0, rfl, by omega, by show PI _ _ _ _ _ _ _; simpa using HPI.out⟩
    case round =>
      obtain ⟨k, rfl, hk, hr⟩ := hrel
      by_cases hlt : k < fl.length
      · have hki : (k : Int) < fl.length := by omega
        obtain ⟨gx, ox, cx, e1, hcx⟩ := (HS.out.old hr.out.kp).at enFl_len (by decide) k hlt
        injection e1 with e1 _ e3
        subst e1 e3
        have hfo := HFO.out fl[k] (List.getElem_mem hlt)
        have HTK : Hid (preT c 10 ++ (fl.take k).flatMap flT ++ flT fl[k] = preT c 10 ++ (fl.take (k + 1)).flatMap flT) := by
          show _ = _
          rw [List.take_succ_eq_append_getElem hlt, List.flatMap_append]; simp
        have HLL : Hid ((preT c 10 ++ (fl.take k).flatMap flT).length ≤ 100000) := by
          show _ ≤ _
          have := HPL.out 10 (by omega)
          have h2 := fls_len (fl.take k) (fun f hf => HFO.out f (List.mem_of_mem_take hf))
          rw [List.length_take] at h2
          rw [List.length_append]; omega
        obtain ⟨f, hf⟩ : ∃ f, fl[k] = f := ⟨_, rfl⟩
        rw [hf] at hcx hfo HTK
        have HFF := Lib.hid hfo
        obtain ⟨g0, g1, g2, g3, g4⟩ := hfo
        have hwf : IntKind.u64.wrap (f.id : Int) = f.id := by rw [IntKind.wrap_u64]; omega
        have d0 := hcx 0 _ rfl
        have d1 := hcx 1 _ rfl
        have d2 := hcx 2 _ rfl
        have d3 := hcx 3 _ rfl
        have d4 := hcx 4 _ rfl
        simp only [Nat.add_zero] at d0
        obtain ⟨u0, t0, zu0, N0⟩ := gUnitT f.id (by omega)
        obtain ⟨u1, t1, zu1, N1⟩ := gUnitT f.cost (by omega)
        obtain ⟨u2, t2, zu2, N2⟩ := gUnitT f.budget (by omega)
        obtain ⟨u3, t3, zu3, N3⟩ := gUnitT f.size (by omega)
        obtain ⟨u4, t4, zu4, N4⟩ := gUnitT f.cap (by omega)
        have M0 := Lib.hid N0
        have M1 := Lib.hid N1
        have M2 := Lib.hid N2
        have M3 := Lib.hid N3
        have M4 := Lib.hid N4
        have T0 := Lib.hid t0; have T1 := Lib.hid t1; have T2 := Lib.hid t2; have T3 := Lib.hid t3; have T4 := Lib.hid t4
        clear N0 N1 N2 N3 N4 t0 t1 t2 t3 t4 hcx hf
        go_wp2_with fail
        have hb5 : Blk (wr.alloc (.cells #[.int .u32 f.id, .int .u64 f.cost, .int .u64 f.budget, .int .u64 f.size, .int .u64 f.cap] 85)) wr.heap.size [.int .u32 f.id, .int .u64 f.cost, .int .u64 f.budget, .int .u64 f.size, .int .u64 f.cap] 85 := Blk.new wr [.int .u32 f.id, .int .u64 f.cost, .int .u64 f.budget, .int .u64 f.size, .int .u64 f.cap] 85
        have hp5 := hr.out.old ((Kp.refl none' wr).alloc (.cells #[.int .u32 f.id, .int .u64 f.cost, .int .u64 f.budget, .int .u64 f.size, .int .u64 f.cap] 85))
        clear d0 d1 d2 d3 d4
        generalize wr.alloc (.cells #[.int .u32 f.id, .int .u64 f.cost, .int .u64 f.budget, .int .u64 f.size, .int .u64 f.cap] 85) = w5 at *
        have b0 := hb5.cell 0 rfl; have b1 := hb5.cell 1 rfl; have b2 := hb5.cell 2 rfl; have b3 := hb5.cell 3 rfl; have b4 := hb5.cell 4 rfl
        have HP5 := Lib.hid hp5
        clear hp5 hb5 hr
        go_wp2_with fail
        clear b0 b1 b2 b3 b4
        go_loopw [11, 91] (fun s0 i0 wr => ∃ (j : Nat) (vv : Value), i0 = .int .i64 j ∧ j ≤ 5 ∧ s0 = vv ∧ Hid (wr.ownsRow w5.heap.size 9 1 vv j ((strs [u0, u1, u2, u3, u4]).take j)) ∧ Hid (Kp none' w5 wr)) (fun _ i0 _ => 5 - (intOf i0).toNat)
        case atStart => exact ⟨0, _, rfl, by omega, rfl, ⟨rfl, .inl ⟨rfl, rfl⟩⟩, Kp.refl _ _⟩
        case round =>
          rename_i w7
          obtain ⟨j, vv, rfl, hj, rfl, hO7, HK7⟩ := hrel
          have hx0 := ixU0; have hx1 := ixU1; have hx2 := ixU2; have hx3 := ixU3; have hx4 := ixU4
          have hj6 : j = 0 ∨ j = 1 ∨ j = 2 ∨ j = 3 ∨ j = 4 ∨ j = 5 := by omega
          rcases hj6 with rfl | rfl | rfl | rfl | rfl | rfl
          · go_wp2_with fail
            refine (M0.out _).mono ?_
            rintro e w8 ⟨rfl, k8⟩
            have HK8 := Lib.hid (HK7.out.trans k8)
            have HO8 := Lib.hid (own_kp hO7.out k8 (fun _ _ hf => hf))
            clear k8
            go_wp2_with (at_builtin; refine wp_app1 tStr (.tmp 94) (.tmp 97) rfl rfl w5.heap.size (HO8.out.alloc _) [.string u0] rfl rfl rfl (heap_new _ _) rfl (by omega) (by omega) (by have := HK8.out.size; simp; omega) ?_)
            intro g1 cap1 w9 hown1 hgrow
            have HO9 := Lib.hid hown1
            have HK9 : Hid (Kp none' w5 w9) := (HK8.out.alloc _).grown hgrow (fun b e => .inr (own_block HO8.out e).1)
            clear hown1 hgrow
            go_wp2_with fail
            go_roundw
            case rel => exact ⟨1, _, by go_num, by omega, rfl, HO9.out, HK9.out⟩
            case measure => simp [intOf]
          · go_wp2_with fail
            refine (M1.out _).mono ?_
            rintro e w8 ⟨rfl, k8⟩
            have HK8 := Lib.hid (HK7.out.trans k8)
            have HO8 := Lib.hid (own_kp hO7.out k8 (fun _ _ hf => hf))
            clear k8
            go_wp2_with (at_builtin; refine wp_app1 tStr (.tmp 94) (.tmp 97) rfl rfl w5.heap.size (HO8.out.alloc _) [.string u1] rfl rfl rfl (heap_new _ _) rfl (by omega) (by omega) (by have := HK8.out.size; simp; omega) ?_)
            intro g1 cap1 w9 hown1 hgrow
            have HO9 := Lib.hid hown1
            have HK9 : Hid (Kp none' w5 w9) := (HK8.out.alloc _).grown hgrow (fun b e => .inr (own_block HO8.out e).1)
            clear hown1 hgrow
            go_wp2_with fail
            go_roundw
            case rel => exact ⟨2, _, by go_num, by omega, rfl, HO9.out, HK9.out⟩
            case measure => simp [intOf]
          · go_wp2_with fail
            refine (M2.out _).mono ?_
            rintro e w8 ⟨rfl, k8⟩
            have HK8 := Lib.hid (HK7.out.trans k8)
            have HO8 := Lib.hid (own_kp hO7.out k8 (fun _ _ hf => hf))
            clear k8
            go_wp2_with (at_builtin; refine wp_app1 tStr (.tmp 94) (.tmp 97) rfl rfl w5.heap.size (HO8.out.alloc _) [.string u2] rfl rfl rfl (heap_new _ _) rfl (by omega) (by omega) (by have := HK8.out.size; simp; omega) ?_)
            intro g1 cap1 w9 hown1 hgrow
            have HO9 := Lib.hid hown1
            have HK9 : Hid (Kp none' w5 w9) := (HK8.out.alloc _).grown hgrow (fun b e => .inr (own_block HO8.out e).1)
            clear hown1 hgrow
            go_wp2_with fail
            go_roundw
            case rel => exact ⟨3, _, by go_num, by omega, rfl, HO9.out, HK9.out⟩
            case measure => simp [intOf]
          · go_wp2_with fail
            refine (M3.out _).mono ?_
            rintro e w8 ⟨rfl, k8⟩
            have HK8 := Lib.hid (HK7.out.trans k8)
            have HO8 := Lib.hid (own_kp hO7.out k8 (fun _ _ hf => hf))
            clear k8
            go_wp2_with (at_builtin; refine wp_app1 tStr (.tmp 94) (.tmp 97) rfl rfl w5.heap.size (HO8.out.alloc _) [.string u3] rfl rfl rfl (heap_new _ _) rfl (by omega) (by omega) (by have := HK8.out.size; simp; omega) ?_)
            intro g1 cap1 w9 hown1 hgrow
            have HO9 := Lib.hid hown1
            have HK9 : Hid (Kp none' w5 w9) := (HK8.out.alloc _).grown hgrow (fun b e => .inr (own_block HO8.out e).1)
            clear hown1 hgrow
            go_wp2_with fail
            go_roundw
            case rel => exact ⟨4, _, by go_num, by omega, rfl, HO9.out, HK9.out⟩
            case measure => simp [intOf]
          · go_wp2_with fail
            refine (M4.out _).mono ?_
            rintro e w8 ⟨rfl, k8⟩
            have HK8 := Lib.hid (HK7.out.trans k8)
            have HO8 := Lib.hid (own_kp hO7.out k8 (fun _ _ hf => hf))
            clear k8
            go_wp2_with (at_builtin; refine wp_app1 tStr (.tmp 94) (.tmp 97) rfl rfl w5.heap.size (HO8.out.alloc _) [.string u4] rfl rfl rfl (heap_new _ _) rfl (by omega) (by omega) (by have := HK8.out.size; simp; omega) ?_)
            intro g1 cap1 w9 hown1 hgrow
            have HO9 := Lib.hid hown1
            have HK9 : Hid (Kp none' w5 w9) := (HK8.out.alloc _).grown hgrow (fun b e => .inr (own_block HO8.out e).1)
            clear hown1 hgrow
            go_wp2_with fail
            go_roundw
            case rel => exact ⟨5, _, by go_num, by omega, rfl, HO9.out, HK9.out⟩
            case measure => simp [intOf]
          · have HP7 := Lib.hid (HP5.out.old HK7.out)
            have e0 := HP7.out.say.cell 0 rfl
            go_wp2_with fail
            refine (HP7.out.flow f HFF.out u0 u1 u2 u3 u4 T0.out T1.out T2.out T3.out T4.out HLL.out hO7.out).mono ?_
            rintro e w8 ⟨rfl, hp8⟩
            rw [HTK.out] at hp8
            have HP8 := Lib.hid hp8
            clear hp8 e0
            go_wp2_with fail
            go_roundw
            case rel => exact ⟨k + 1, by go_num, by omega, HP8.out⟩
            case measure => simp [intOf]; omega
      · have hke : k = fl.length := by omega
        subst hke
        have HT : Hid (preT c 10 ++ (fl.take fl.length).flatMap flT = textC c) := by
          show _ = _
          rw [List.take_length, HTX.out]
        rw [HT.out] at hr
        go_wp2_with fail
        refine (bAsk hr.out.bd (Nat.le_of_lt hr.out.bd.lt)).mono ?_
        rintro e w8 ⟨rfl, k8⟩
        have HK8 : Hid (Kp none' w w8) := hr.out.kp.then k8 (fun i hi hb => by have := hr.out.lo; omega)
        clear k8
        go_wp2_with fail
        go_ret2
        exact ⟨by rw [HPT.out]; rfl, HK8.out⟩
  · have HPT : Hid (putT c = []) := by show _ = _; unfold putT; rw [if_neg h0]
    obtain ⟨ec, hec⟩ : ∃ e, chk c = e := ⟨_, rfl⟩
    rw [hec] at GC h0 ⊢
    have hb : (ec != 0) = true := by simpa using h0
    have HK0 := Lib.hid hk0
    unfold enC at GC HK0 ⊢
    clear h0 hec hk0 hb0 h HEC
    go_enter Tryz.func18, Tryz.ntmps18
    go_wp2_with fail
    refine (GC.out _ (HS.out.old HK0.out)).mono ?_
    rintro e w1 ⟨rfl, k1⟩
    have HK1 := Lib.hid (HK0.out.trans k1)
    clear k1
    go_wp2
    go_ret2
    exact ⟨by rw [HPT.out]; rfl, HK1.out⟩
end Go.Proofs.YtlaakhfgidjofaaGreatDoor
