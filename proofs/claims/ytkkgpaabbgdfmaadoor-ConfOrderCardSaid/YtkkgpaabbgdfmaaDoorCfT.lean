/- Walk for layer 24: the document's Read. -/
import Derived.Test.YtkkgpaabbgdfmaaDoorCfR
import Derived.Test.YtkkgpaabbgdfmaaDoorScLn
import Derived.Deep.RegionHeld3
namespace Go.Proofs.YtkkgpaabbgdfmaaDoor
set_option linter.unusedVariables false
set_option linter.unusedSimpArgs false
open Go Go.RowKit Go.Shelf

theorem tInt : SlT Tryd.prog 72 3 (.int .i64 0) 1 8 := ⟨Tryd.underlying72, by kernel_rfl, rfl, by decide⟩
def mets (l : List Nat) : List Value := l.map fun (n : Nat) => .int .i64 (n : Int)
/-- What the document's Read has between two lines. -/
structure RrI (ls : List (List UInt8)) (w wr : World) (b2 b5 lg lc : Nat) (mv : Value) (k : Nat) (v : Value) (s : CS) : Prop where
  good : gud ⟨zC, []⟩ (ls.take k) = some s
  cfg : Blk wr b5 (enC s.c v) 25
  fl : wr.ownsRow w.heap.size 46 5 v s.c.flows.length (s.c.flows.flatMap enFl)
  met : wr.ownsRow w.heap.size 3 1 mv s.met.length (mets s.met)
  res : Blk wr b2 (enC zC (.slice none 0 0)) 25
  own : wr.ownsRow w.heap.size 9 1 (.slice (some ⟨lg, 0, none⟩) ls.length lc) ls.length (wtx ls)
  ok : s.c.ok
  few : s.met.length ≤ k ∧ s.c.flows.length ≤ k
  kp : Kp none' w wr
theorem RrI.old {ls : List (List UInt8)} {w wr w1 : World} {b2 b5 lg lc : Nat} {mv : Value} {k : Nat} {v : Value} {s : CS} (h : RrI ls w wr b2 b5 lg lc mv k v s) (k1 : Kp none' wr w1) : RrI ls w w1 b2 b5 lg lc mv k v s :=
  ⟨h.good, h.cfg.kp k1 (fun x => x), own_kp h.fl k1 (fun _ _ x => x), own_kp h.met k1 (fun _ _ x => x), h.res.kp k1 (fun x => x), own_kp h.own k1 (fun _ _ x => x), h.ok, h.few, h.kp.trans k1⟩
theorem RrI.pass {ls : List (List UInt8)} {w wr w1 : World} {b2 b5 lg lc : Nat} {mv : Value} {k : Nat} {v : Value} {s : CS} (h : RrI ls w wr b2 b5 lg lc mv k v s) (hk : k < ls.length) {x : List UInt8} (hx : ls[k] = x) (hs : skip x = true) (k1 : Kp none' wr w1) : RrI ls w w1 b2 b5 lg lc mv (k + 1) v s := by
  have h1 := h.old k1
  exact ⟨gud_skip' hk hx h1.good hs, h1.cfg, h1.fl, h1.met, h1.res, h1.own, h1.ok, ⟨by have := h1.few; omega, by have := h1.few; omega⟩, h1.kp⟩
theorem rSay (p : Nat) (hp : p < 10) (c : CfR) (v : Value) (hv : v.oneCell' = true) (s : ByteArray) (hs : s.size ≤ 1000000) (n : Nat) (E : Int) (h : sayE p (bl s) = (n, E)) (w : World) : Calls Tryd.prog 35 #[.agg (enC c v).toArray, .int .i64 p, .string s] w fun e w' => e = .returned (.tuple #[.agg (enC (sayC c p n E) v).toArray, .int .i64 E]) ∧ Kp none' w w' := by
  have hc : p = 0 ∨ p = 1 ∨ p = 2 ∨ p = 3 ∨ p = 4 ∨ p = 5 ∨ p = 6 ∨ p = 7 ∨ p = 8 ∨ p = 9 := by omega
  rcases hc with rfl | rfl | rfl | rfl | rfl | rfl | rfl | rfl | rfl | rfl
  · exact rSay0 c v hv s hs n E h w
  · exact rSay1 c v hv s hs n E h w
  · exact rSay2 c v hv s hs n E h w
  · exact rSay3 c v hv s hs n E h w
  · exact rSay4 c v hv s hs n E h w
  · exact rSay5 c v hv s hs n E h w
  · exact rSay6 c v hv s hs n E h w
  · exact rSay7 c v hv s hs n E h w
  · exact rSay8 c v hv s hs n E h w
  · exact rSay9 c v hv s hs n E h w
theorem gud_bad' {s : ByteArray} {k : Nat} {st : CS} {x : List UInt8} {E : Int} (hk : k < (parts 10 (bl s)).length) (hx : (parts 10 (bl s))[k] = x) (hg : gud ⟨zC, []⟩ ((parts 10 (bl s)).take k) = some st) (hs : skip x = false) (hE : (lineS st (words x)).2 = E) (h0 : E ≠ 0) : readC (bl s) = (zC, k + 1, E) := by
  have hst : (stepL st (parts 10 (bl s))[k]).2 = E := by rw [hx]; unfold stepL; rw [hs]; simpa using hE
  have hbad := readC_bad hk hg (by rw [hst]; exact h0)
  rwa [hst] at hbad
theorem step_set_row {P : Program} {ops : Array Oper} {o : Oper} {a : Act} {w : World} {K : Act → World → Prop} {Q : Exit → Act → World → Prop} {E : Prop} (hgd : o.guard = none) (ty : TypeId) (x y : Operand) (ho : o.op = .store ty x y) {g : Nat} {old : List Value} {t : TypeId} (hb : Blk w g old t) (cs : List Value)
    (hx : a.eval x = .pointer (some ⟨g, 0, none⟩)) (hy : a.eval y = .agg cs.toArray) (hi : (P.info? ty).map (·.size) = some cs.length) (hold : old.length = cs.length) (h1 : ∀ v ∈ cs, v.oneCell' = true)
    (h : ∀ W2, Blk W2 g cs t → (∀ b cs' t', Blk w b cs' t' → b ≠ g → Blk W2 b cs' t') → (∀ (S : Nat → Prop) a, Kp S a w → (S g ∨ a.heap.size ≤ g) → Kp S a W2) → K (a.put o.dst undef) W2) : if Region.wanted o (yielded ops a.tmps) = true then Oper.wp P o a w K Q else E := by
  have hw : Region.wanted o (yielded ops a.tmps) = true := by simp [Region.wanted, hgd]
  rw [if_pos hw]
  exact wp_store_row ty x y ho g cs.toArray hx hy t old.toArray hb.is (by rw [List.size_toArray]; exact hi) (by rw [List.size_toArray, List.size_toArray]; exact hold) (oneAll h1)
    (h _ (blkSetRow hb) (fun _ _ _ k hne => blkSetRowNe k hne _) (fun _ _ k hg => kpSetRow k hg _))
theorem step_get_row {P : Program} {ops : Array Oper} {o : Oper} {a : Act} {w : World} {K : Act → World → Prop} {Q : Exit → Act → World → Prop} {E : Prop} (hgd : o.guard = none) (ty : TypeId) (x : Operand) (ho : o.op = .load ty x) {g : Nat} {cs : List Value} {t : TypeId} (hb : Blk w g cs t) (d : TypeDesc)
    (hx : a.eval x = .pointer (some ⟨g, 0, none⟩)) (hu : P.underlying ty = some d) (hd : (match d with | .struct _ | .array _ _ => true | _ => false) = true) (hi : (P.info? ty).map (·.size) = some cs.length)
    (h : K (a.put o.dst (.agg cs.toArray)) w) : if Region.wanted o (yielded ops a.tmps) = true then Oper.wp P o a w K Q else E := by
  have hw : Region.wanted o (yielded ops a.tmps) = true := by simp [Region.wanted, hgd]
  rw [if_pos hw]
  exact wp_load_row ty x ho g hx t cs.toArray (0, 0) d hb.is hu hd (by rw [List.size_toArray]; exact hi) h
theorem say_le {p n : Nat} {l : List UInt8} (h : sayE p l = (n, 0)) : n ≤ 18446744073709551615 ∧ ((p = 0 ∨ p = 1 ∨ p = 2 ∨ p = 3 ∨ p = 4 ∨ p = 6) → n ≤ 2147483647) := by
  unfold sayE at h
  split at h
  · have h1 := (Prod.mk.inj h).1
    have h2 := plc_le l krs
    have h3 : krs.length = 3 := rfl
    have h4 : n ≤ 4 := by rw [← h1]; unfold kindN; split <;> omega
    exact ⟨by omega, fun _ => by omega⟩
  · split at h
    · have h1 := (Prod.mk.inj h).1
      have h2 := plc_le l kbs
      have h3 : kbs.length = 3 := rfl
      have h4 : n ≤ 4 := by rw [← h1]; unfold kindN; split <;> omega
      exact ⟨by omega, fun _ => by omega⟩
    · rename_i h0 h1
      have h2 := numE_le (mostN p) l
      rw [h] at h2
      simp only at h2
      unfold mostN at h2
      split at h2
      · exact ⟨by omega, fun _ => h2⟩
      · rename_i h3
        exact ⟨h2, fun h4 => absurd h4 (by omega)⟩
theorem kp11 (w : World) (g : Nat) (u0 u1 u2 u3 u4 u5 u6 u7 u8 u9 u10 : Value) : Kp (fun b => b = g) w ((((((((((((w).setCell ⟨g, 0, none⟩ u0).setCell ⟨g, 1, none⟩ u1).setCell ⟨g, 2, none⟩ u2).setCell ⟨g, 3, none⟩ u3).setCell ⟨g, 4, none⟩ u4).setCell ⟨g, 5, none⟩ u5).setCell ⟨g, 6, none⟩ u6).setCell ⟨g, 7, none⟩ u7).setCell ⟨g, 8, none⟩ u8).setCell ⟨g, 9, none⟩ u9).setCell ⟨g, 10, none⟩ u10) :=
  Kp.set (p := ⟨g, 10, none⟩) (Kp.set (p := ⟨g, 9, none⟩) (Kp.set (p := ⟨g, 8, none⟩) (Kp.set (p := ⟨g, 7, none⟩) (Kp.set (p := ⟨g, 6, none⟩) (Kp.set (p := ⟨g, 5, none⟩) (Kp.set (p := ⟨g, 4, none⟩) (Kp.set (p := ⟨g, 3, none⟩) (Kp.set (p := ⟨g, 2, none⟩) (Kp.set (p := ⟨g, 1, none⟩) (Kp.set (p := ⟨g, 0, none⟩) (Kp.refl (fun b => b = g) w) (.inl rfl) u0) (.inl rfl) u1) (.inl rfl) u2) (.inl rfl) u3) (.inl rfl) u4) (.inl rfl) u5) (.inl rfl) u6) (.inl rfl) u7) (.inl rfl) u8) (.inl rfl) u9) (.inl rfl) u10
theorem blk11 {w : World} {g : Nat} {o0 o1 o2 o3 o4 o5 o6 o7 o8 o9 o10 : Value} {t : TypeId} (h : Blk w g [o0, o1, o2, o3, o4, o5, o6, o7, o8, o9, o10] t) (u0 u1 u2 u3 u4 u5 u6 u7 u8 u9 u10 : Value) : Blk ((((((((((((w).setCell ⟨g, 0, none⟩ u0).setCell ⟨g, 1, none⟩ u1).setCell ⟨g, 2, none⟩ u2).setCell ⟨g, 3, none⟩ u3).setCell ⟨g, 4, none⟩ u4).setCell ⟨g, 5, none⟩ u5).setCell ⟨g, 6, none⟩ u6).setCell ⟨g, 7, none⟩ u7).setCell ⟨g, 8, none⟩ u8).setCell ⟨g, 9, none⟩ u9).setCell ⟨g, 10, none⟩ u10) g [u0, u1, u2, u3, u4, u5, u6, u7, u8, u9, u10] t :=
  (((((((((((h).set 0 u0).set 1 u1).set 2 u2).set 3 u3).set 4 u4).set 5 u5).set 6 u6).set 7 u7).set 8 u8).set 9 u9).set 10 u10
theorem flR_ok (l0 l1 l2 l3 l4 : List UInt8) : (flR [l0, l1, l2, l3, l4]).ok := by
  have m0 := numE_le 4294967295 l0; have m1 := numE_le 18446744073709551615 l1; have m2 := numE_le 18446744073709551615 l2; have m3 := numE_le 18446744073709551615 l3; have m4 := numE_le 18446744073709551615 l4
  obtain ⟨⟨n0, E0⟩, q0⟩ : ∃ r, numE 4294967295 l0 = r := ⟨_, rfl⟩
  obtain ⟨⟨n1, E1⟩, q1⟩ : ∃ r, numE 18446744073709551615 l1 = r := ⟨_, rfl⟩
  obtain ⟨⟨n2, E2⟩, q2⟩ : ∃ r, numE 18446744073709551615 l2 = r := ⟨_, rfl⟩
  obtain ⟨⟨n3, E3⟩, q3⟩ : ∃ r, numE 18446744073709551615 l3 = r := ⟨_, rfl⟩
  obtain ⟨⟨n4, E4⟩, q4⟩ : ∃ r, numE 18446744073709551615 l4 = r := ⟨_, rfl⟩
  rw [q0] at m0; rw [q1] at m1; rw [q2] at m2; rw [q3] at m3; rw [q4] at m4
  obtain ⟨hF, hV⟩ := fl_all q0 q1 q2 q3 q4
  unfold flR
  split
  · rename_i h
    rw [hF] at h
    by_cases e0 : E0 = 0
    · by_cases e1 : E1 = 0
      · by_cases e2 : E2 = 0
        · by_cases e3 : E3 = 0
          · by_cases e4 : E4 = 0
            · rw [hV e0 e1 e2 e3 e4]; exact flw_ok m0 m1 m2 m3 m4
            · simp [e0, e1, e2, e3, e4] at h
          · simp [e0, e1, e2, e3] at h
        · simp [e0, e1, e2] at h
      · simp [e0, e1] at h
    · simp [e0] at h
  · exact ⟨by decide, by decide, by decide, by decide, by decide⟩
set_option maxRecDepth 100000 in
set_option maxHeartbeats 16000000 in
theorem rReadC (s : ByteArray) (hs : s.size ≤ 90000) (w : World) : Calls Tryd.prog 13 #[.string s] w fun e w' => ∃ v, e = .returned (.tuple #[.agg (enC (readC (bl s)).1 v).toArray, .int .i64 (readC (bl s)).2.1, .int .i64 (readC (bl s)).2.2]) ∧ Sl w' v (readC (bl s)).1.flows.length 5 ((readC (bl s)).1.flows.flatMap enFl) ∧ (readC (bl s)).1.ok ∧ Kp none' w w' := by
  have hpl := parts_count 10 (bl s)
  rw [bl_len] at hpl
  have HPS := Lib.hid (parts_size 10 (bl s))
  obtain ⟨N, hN⟩ : ∃ N, (parts 10 (bl s)).length = N := ⟨_, rfl⟩
  obtain ⟨W3, hW3⟩ : ∃ W, (w.alloc (.cells #[.int .i64 0, .int .i64 0, .int .i64 0, .int .i64 0, .int .i64 0, .int .u64 0, .int .i64 0, .int .u64 0, .int .u64 0, .int .u64 0, .slice none 0 0] 25)).alloc (.cells #[.int .i64 0, .int .i64 0, .int .i64 0, .int .i64 0, .int .i64 0, .int .u64 0, .int .i64 0, .int .u64 0, .int .u64 0, .int .u64 0, .slice none 0 0] 25) = W := ⟨_, rfl⟩
  have hk3 : Kp none' w W3 := by rw [← hW3]; exact ((Kp.refl _ _).alloc _).alloc _
  have hb2 : Blk W3 w.heap.size (enC zC (.slice none 0 0)) 25 := by rw [← hW3]; exact (Blk.new w (enC zC (.slice none 0 0)) 25).alloc _
  have hb5 : Blk W3 (w.heap.size + 1) (enC zC (.slice none 0 0)) 25 := by
    rw [← hW3]
    have := Blk.new (w.alloc (.cells (enC zC (.slice none 0 0)).toArray 25)) (enC zC (.slice none 0 0)) 25
    rw [World.size_alloc] at this
    exact this
  have HLN := Lib.hid (fun W => rLines s W (by omega))
  have hz3 := hk3.size
  have HB2 := Lib.hid hb2; have HB5 := Lib.hid hb5; have HK3 := Lib.hid hk3
  have HN := Lib.hid hN
  clear hk3 hb2 hb5 hN
  have hl1 : w.heap.size ≤ w.heap.size + 1 := Nat.le_succ _
  have hne12 : w.heap.size ≠ w.heap.size + 1 := by omega
  go_enter Tryd.func13, Tryd.ntmps13
  go_wp2_with (first
    | (refine wp_set_row rfl 25 (.tmp 5) (.tmp 19) rfl HB5.out (enC zC (.slice none 0 0)) rfl rfl infoC rfl (oneC zC rfl) ?_
       intro W4 hB4 hO4 hK4
       have HB5' := Lib.hid hB4; have HB2' := Lib.hid (hO4 _ _ _ HB2.out hne12); have HK4 := Lib.hid (hK4 _ _ HK3.out (.inr hl1))
       clear hB4 hO4 hK4 hW3))
  refine (HLN.out _).mono ?_
  rintro e wX ⟨vl, rfl, hown, kX⟩
  obtain ⟨lg, lc, rfl, hgl, _, _⟩ := own_full hown (by omega)
  have hI0 : RrI (parts 10 (bl s)) w wX w.heap.size (w.heap.size + 1) lg lc (.slice none 0 0) 0 (.slice none 0 0) ⟨zC, []⟩ :=
    ⟨rfl, HB5'.out.kp kX (fun x => x), World.ownsRow_nil _ _ _ _, World.ownsRow_nil _ _ _ _, HB2'.out.kp kX (fun x => x), own_base hown HK4.out.size, zC_ok, ⟨by simp, by simp [zC]⟩, HK4.out.trans kX⟩
  have HI0 := Lib.hid hI0
  rw [HN.out]
  clear hI0 hown kX HB2 HB5 HK3 HLN hgl HB5' HB2' HK4
  obtain ⟨b2, hb2⟩ : ∃ c, w.heap.size = c := ⟨_, rfl⟩
  obtain ⟨b5, hb5⟩ : ∃ c, w.heap.size + 1 = c := ⟨_, rfl⟩
  have HI1 : Hid (RrI (parts 10 (bl s)) w wX b2 b5 lg lc (.slice none 0 0) 0 (.slice none 0 0) ⟨zC, []⟩) := by rw [← hb2, ← hb5]; exact HI0.out
  have hl2 : w.heap.size ≤ b2 := by omega
  have hl5 : w.heap.size ≤ b5 := by omega
  have hne25 : b2 ≠ b5 := by omega
  rw [hb5, hb2]
  clear HI0 hb2 hb5 hz3 hl1 hne12
  go_wp2_with fail
  go_loopw [7, 8] (fun mv i0 wr => ∃ (k : Nat) (v : Value) (st : CS), i0 = .int .i64 k ∧ k ≤ N ∧ Hid (RrI (parts 10 (bl s)) w wr b2 b5 lg lc mv k v st)) (fun _ i0 _ => N - (intOf i0).toNat)
  case atStart => exact ⟨0, _, _, rfl, by omega, HI1.out⟩
  case round =>
    rename_i mv0
    obtain ⟨wo, hwo⟩ : ∃ wo : World, wo = wr := ⟨_, rfl⟩
    subst hwo
    obtain ⟨k, v, st, rfl, hk, hr⟩ := hrel
    obtain ⟨mo, mc, rfl⟩ := own_shape hr.out.met
    by_cases hlt : k < N
    · have hkp : k < (parts 10 (bl s)).length := by rw [HN.out]; exact hlt
      have hki : (k : Int) < N := by omega
      have hwk : IntKind.i64.wrap ((k : Int) + 1) = ((k + 1 : Nat) : Int) := by rw [IntWalk.i64_in _ (by omega)]; omega
      obtain ⟨x, hx⟩ : ∃ x, (parts 10 (bl s))[k] = x := ⟨_, rfl⟩
      have hxs : (tx x).size ≤ 90000 := by
        have := HPS.out x (by rw [← hx]; exact List.getElem_mem hkp)
        rw [tx_size, bl_len] at *; omega
      have HX := Lib.hid hx
      have hcell : wo.cell? ⟨lg, k, none⟩ = some (.string (tx x)) := own_cell hr.out.own k (by simp [wtx, strs, hkp, hx])
      clear hx
      have HWD := Lib.hid (rWords (tx x) wo (by omega))
      rw [bl_tx] at HWD
      go_wp2_with fail
      refine (HWD.out).mono ?_
      rintro e w1 ⟨v1, rfl, hown1, k1⟩
      obtain ⟨ws, hws⟩ : ∃ ws, (words x).map tx = ws := ⟨_, rfl⟩
      have hws2 : words x = ws.map bl := by rw [← hws, map_bl_tx]
      have hwl : (words x).length = ws.length := by rw [← hws, List.length_map]
      have hwm := words_many x
      rw [tx_size] at hxs
      have hwsz := words_size x
      unfold wtx at hown1
      rw [hws, hwl] at hown1
      have HW1 := Lib.hid hown1
      have HK1 := Lib.hid k1
      clear HWD hown1 k1 hws hcell
      cases ws with
      | nil =>
        have HSK := Lib.hid (hr.out.pass hkp HX.out (skip_nil hws2) HK1.out)
        have hv : v1 = .slice none 0 0 ∨ ∃ g c, v1 = .slice (some ⟨g, 0, none⟩) 0 c := by
          rcases HW1.out.2 with ⟨h, _⟩ | ⟨g, c, _, h, _⟩
          · exact .inl h
          · exact .inr ⟨g, c, h⟩
        clear hws2 hwl hwsz hwm hwk
        rcases hv with rfl | ⟨g1, c1, rfl⟩
        all_goals
          go_wp2
          go_roundw
          case rel => exact ⟨k + 1, v, st, by go_num, by omega, HSK.out⟩
          case measure => simp [intOf]; omega
      | cons y r =>
        obtain ⟨g1, cap1, rfl, hg1, hc1, hc2⟩ := own_full HW1.out (by simp)
        have hp := word_pos hws2
        have hsk := skip_cons hws2 hp
        have hrl : (y :: r).length ≤ 1000000 := by
          rw [hwl] at hwm; omega
        have hrsz : ∀ z ∈ (y :: r), z.size ≤ 1000000 := fun z hz => by
          have := hwsz (bl z) (by rw [hws2]; exact List.mem_map_of_mem hz)
          rw [bl_len] at this; omega
        have hcells : ∀ i z, (y :: r)[i]? = some z → w1.cell? ⟨g1, i, none⟩ = some (.string z) := fun i z hz => own_cell HW1.out i (by
          unfold strs
          rw [List.getElem?_map, hz]; rfl)
        have hc0 := hcells 0 y rfl
        have hpi : (0 : Int) < y.size := by omega
        have hrl2 : (((y :: r).length : Int) == 0) = false := by rw [beq_eq_false_iff_ne, List.length_cons]; omega
        obtain ⟨M, hM⟩ : ∃ M, (y :: r).length = M := ⟨_, rfl⟩
        rw [hM] at hrl2
        have hln : (r.length : Int) + 1 = M := by rw [← hM, List.length_cons]; omega
        have HCL := Lib.hid hcells
        have HSZ := Lib.hid hrsz
        have HMM := Lib.hid hM
        have HRL := Lib.hid hrl
        have HW2 := Lib.hid hws2
        clear hcells hrsz hrl hM
        by_cases h35 : (y[0] == 35) = true
        · have h35n : y[0] = 35 := by simpa using h35
          have hcs : ((y[0].toNat : Int) == 35) = true := by rw [h35n]; rfl
          have HSK := Lib.hid (hr.out.pass hkp HX.out (by rw [hsk]; exact h35) HK1.out)
          clear h35 h35n hsk hws2 hwk
          go_wp2
          go_roundw
          case rel => exact ⟨k + 1, v, st, by go_num, by omega, HSK.out⟩
          case measure => simp [intOf]; omega
        · have hcs : ((y[0].toNat : Int) == 35) = false := by
            rw [beq_eq_false_iff_ne]; intro e
            have : y[0].toNat = 35 := by omega
            exact h35 (by rw [beq_iff_eq]; exact UInt8.toNat_inj.1 this)
          have hskf : skip x = false := by rw [hsk]; simpa using h35
          have HSF := Lib.hid hskf
          have HBE : Hid (∀ E, (lineS st ((y :: r).map bl)).2 = E → E ≠ 0 → readC (bl s) = (zC, k + 1, E)) := fun E hE h0 => gud_bad' hkp HX.out hr.out.good hskf (by rw [HW2.out]; exact hE) h0
          obtain ⟨p, hpp⟩ : ∃ p, plc nms (bl y) = p := ⟨_, rfl⟩
          have hple := plc_le (bl y) nms
          rw [hpp] at hple
          have hl11 : nms.length = 11 := rfl
          rw [hl11] at hple
          have HWH := Lib.hid (fun W => rWhich y p hpp W)
          have HPP : Hid (plc nms (((y :: r).map bl).headD []) = p) := hpp
          clear h35 hsk hws2 hskf hpp hl11 hwl hwsz hwm
          go_wp2_with fail
          refine (HWH.out _).mono ?_
          rintro e w2 ⟨rfl, k2⟩
          have HK2 := Lib.hid (HK1.out.trans k2)
          have HK12 := Lib.hid k2
          have HR2 := Lib.hid (hr.out.old HK2.out)
          have HRES := Lib.hid HR2.out.res
          clear k2
          by_cases hp11 : p = 11
          · have HBAD := Lib.hid (HBE.out 31 (by rw [line_bad HPP.out (.inl hp11)]) (by decide))
            subst hp11
            have hwi : whI 11 = -1 := rfl
            rw [hwi]
            go_wp2_with (first
              | (refine wp_set_row rfl 25 (.tmp 2) (.tmp 57) rfl HRES.out (enC zC (.slice none 0 0)) rfl rfl infoC rfl (oneC zC rfl) ?_
                 intro W8 hB8 hO8 hK8
                 have HB8 := Lib.hid hB8; have HK8 := Lib.hid (hK8 _ _ HR2.out.kp (.inr hl2))
                 clear hB8 hO8 hK8))
            refine ret_row3 (by rfl) HB8.out _ Tryd.underlying25 rfl infoC (by rfl) ?_
            refine ⟨.slice none 0 0, ?_, ?_, ?_, HK8.out⟩
            · rw [HBAD.out]; rfl
            · rw [HBAD.out]; exact Sl.nil _ _
            · rw [HBAD.out]; exact zC_ok
          · have hwi : whI p = (p : Int) := by unfold whI; rw [if_neg hp11]
            rw [hwi]
            have hpl10 : p ≤ 10 := by omega
            have hpn : ¬ (p : Int) < 0 := by omega
            clear hwi HWH hple
            by_cases hwant : (y :: r).length = (if p = 10 then 6 else 2)
            · by_cases hp10 : p = 10
              · subst hp10
                rw [if_pos rfl] at hwant
                have hM6 : M = 6 := by rw [← HMM.out]; exact hwant
                subst hM6
                obtain ⟨y0, y1, y2, y3, y4, rfl⟩ : ∃ y0 y1 y2 y3 y4, r = [y0, y1, y2, y3, y4] := by
                  match r, hwant with
                  | [y0, y1, y2, y3, y4], _ => exact ⟨_, _, _, _, _, rfl⟩
                go_wp2_with fail
                obtain ⟨L, hL⟩ : ∃ L, st.met.length = L := ⟨_, rfl⟩
                have hLb : L ≤ 100000 := by have := hr.out.few; omega
                rw [hL]
                go_loopw [12] (fun i0 wr => ∃ j : Nat, i0 = .int .i64 j ∧ j ≤ L ∧ Hid (wr = w2)) (fun i0 _ => L - (intOf i0).toNat)
                case atStart => exact ⟨0, rfl, by omega, rfl⟩
                case round =>
                  obtain ⟨j, rfl, hj, hw2⟩ := hrel
                  have hw2' := hw2.out
                  subst hw2'
                  by_cases hjl : j < L
                  · have hji : (j : Int) < L := by omega
                    obtain ⟨gm, cm, e, _⟩ := own_shape1 HR2.out.met (by omega)
                    injection e with e1 _ _
                    have hjm : j < st.met.length := by omega
                    obtain ⟨q, hq⟩ : ∃ q, st.met[j] = q := ⟨_, rfl⟩
                    have hmc : wr.cell? ⟨gm, j, none⟩ = some (.int .i64 q) := by
                      have := HR2.out.met
                      rw [e1] at this
                      exact own_cell this j (by simp [mets, hjm, hq])
                    subst e1
                    clear hL
                    by_cases hq10 : q = 10
                    · subst hq10
                      go_wp2
                      go_roundw
                      case rel => exact ⟨j + 1, by go_num, by omega, True.intro⟩
                      case measure => simp [intOf]; omega
                    · have hqb : ((q : Int) == 10) = false := by rw [beq_eq_false_iff_ne]; omega
                      clear hq10
                      go_wp2
                      go_roundw
                      case rel => exact ⟨j + 1, by go_num, by omega, True.intro⟩
                      case measure => simp [intOf]; omega
                  · have hjn : ¬ (j : Int) < L := by omega
                    have HNM : Hid (10 < 10 → 10 ∉ st.met) := fun h => by omega
                    have hown2 := HR2.out.met
                    rw [hL] at hown2
                    have HO2 := Lib.hid hown2
                    have hB2 : w.heap.size ≤ wr.heap.size := HR2.out.kp.size
                    clear hown2
                    go_wp2_with (at_builtin; refine wp_app1 tInt (.tmp 79) (.tmp 81) rfl rfl w.heap.size (HO2.out.alloc _) [.int .i64 _] rfl rfl rfl (heap_newC _ _ (by simp)) rfl (by omega) (by omega) (by simp; omega) ?_)
                    intro g3 cap3 w3 hown3 hgrow
                    have k3 : Kp (fun b => (Value.slice mo L mc).ownBlock = some b) wr w3 := ((Kp.refl _ wr).alloc _).grown hgrow (fun k hk => .inl hk)
                    have HCFG3 : Hid (Blk w3 b5 (enC st.c v) 25) := HR2.out.cfg.kp k3 (fun e => own_ne_blk HO2.out HR2.out.cfg (by decide) e)
                    have HFL3 := Lib.hid (own_kp HR2.out.fl k3 (fun b hb e => own_ne_own HR2.out.fl HO2.out (by decide) b hb e))
                    have HRES3 : Hid (Blk w3 b2 (enC zC (.slice none 0 0)) 25) := HR2.out.res.kp k3 (fun e => own_ne_blk HO2.out HR2.out.res (by decide) e)
                    have HOWN3 := Lib.hid (own_kp HR2.out.own k3 (fun b hb e => own_ne_own HR2.out.own HO2.out (by decide) b hb e))
                    have hw2r := own_kp (S := none') HW1.out HK12.out (fun _ _ x => x)
                    have HW3 := Lib.hid (own_kp hw2r k3 (fun b hb e => own_ne_own hw2r HO2.out (by decide) b hb e))
                    have HKP3 : Hid (Kp none' w w3) := HR2.out.kp.then k3 (fun i hi e => by have := (own_block HO2.out e).1; omega)
                    have HMET3 := Lib.hid hown3
                    have HFEW := Lib.hid HR2.out.few
                    have HOK := Lib.hid HR2.out.ok
                    have HGOOD := Lib.hid HR2.out.good
                    clear hown3 hgrow k3 hw2r
                    have d0 := own_cell HW3.out 1 (u := .string y0) rfl
                    have d1 := own_cell HW3.out 2 (u := .string y1) rfl
                    have d2 := own_cell HW3.out 3 (u := .string y2) rfl
                    have d3 := own_cell HW3.out 4 (u := .string y3) rfl
                    have d4 := own_cell HW3.out 5 (u := .string y4) rfl
                    obtain ⟨f, hf⟩ : ∃ f, flR [bl y0, bl y1, bl y2, bl y3, bl y4] = f := ⟨_, rfl⟩
                    obtain ⟨F, hF⟩ : ∃ F, flE 0 [bl y0, bl y1, bl y2, bl y3, bl y4] = F := ⟨_, rfl⟩
                    have HFC := Lib.hid (rFlow y0 y1 y2 y3 y4 (HSZ.out _ (by simp)) (HSZ.out _ (by simp)) (HSZ.out _ (by simp)) (HSZ.out _ (by simp)) (HSZ.out _ (by simp)) w3 g1 (cap1 - 1) d0 d1 d2 d3 d4 f F hf hF)
                    unfold enFl at HFC
                    have hlf := line_fl (s := st) (l0 := bl y) (r := [bl y0, bl y1, bl y2, bl y3, bl y4]) HPP.out rfl
                    rw [hF] at hlf
                    have HLF : Hid (lineS st ([y, y0, y1, y2, y3, y4].map bl) = if F ≠ 0 then (st, F) else (⟨{ st.c with flows := st.c.flows ++ [flV [bl y0, bl y1, bl y2, bl y3, bl y4]] }, st.met ++ [10]⟩, 0)) := hlf
                    have HFV : Hid (F = 0 → flV [bl y0, bl y1, bl y2, bl y3, bl y4] = f) := fun h => by rw [← hf]; unfold flR; rw [hF, if_pos h]
                    have HFOK : Hid f.ok := by
                      show f.ok
                      rw [← hf]
                      exact flR_ok _ _ _ _ _
                    have hcp : (6 : Int) ≤ cap1 := by simp at hc1; omega
                    clear d0 d1 d2 d3 d4 hf hF hlf
                    go_wp2_with fail
                    refine (HFC.out).mono ?_
                    rintro e w4 ⟨rfl, k4⟩
                    have HCFG4 := Lib.hid (HCFG3.out.kp k4 (fun x => x)); have HFL4 := Lib.hid (own_kp HFL3.out k4 (fun _ _ x => x)); have HRES4 := Lib.hid (HRES3.out.kp k4 (fun x => x)); have HOWN4 := Lib.hid (own_kp HOWN3.out k4 (fun _ _ x => x)); have HMET4 := Lib.hid (own_kp HMET3.out k4 (fun _ _ x => x)); have HKP4 := Lib.hid (HKP3.out.trans k4)
                    clear k4 HCFG3 HFL3 HRES3 HOWN3 HMET3 HKP3 HFC
                    go_upto_region 24 with fail
                    have hb := Blk.new w4 (enFl f) 46
                    have hk := (Kp.refl none' w4).alloc (.cells (enFl f).toArray 46)
                    obtain ⟨w5, hw5⟩ : ∃ W, w4.alloc (.cells (enFl f).toArray 46) = W := ⟨_, rfl⟩
                    have hw5' : w4.alloc (.cells #[.int .u32 f.id, .int .u64 f.cost, .int .u64 f.budget, .int .u64 f.size, .int .u64 f.cap] 46) = w5 := hw5
                    rw [hw5] at hb hk
                    rw [hw5']
                    have HCFG5 := Lib.hid (HCFG4.out.kp hk (fun x => x)); have HFL5 := Lib.hid (own_kp HFL4.out hk (fun _ _ x => x)); have HRES5 := Lib.hid (HRES4.out.kp hk (fun x => x)); have HOWN5 := Lib.hid (own_kp HOWN4.out hk (fun _ _ x => x)); have HMET5 := Lib.hid (own_kp HMET4.out hk (fun _ _ x => x)); have HKP5 := Lib.hid (HKP4.out.trans hk)
                    have b0 := hb.cell 0 rfl; have b1 := hb.cell 1 rfl; have b2' := hb.cell 2 rfl; have b3 := hb.cell 3 rfl; have b4 := hb.cell 4 rfl
                    obtain ⟨vo, vc, rfl⟩ := own_shape HFL5.out
                    have c10 := HCFG5.out.cell 10 rfl
                    have y10 := HCFG5.out.fz 10
                    obtain ⟨n, hn⟩ : ∃ n, st.c.flows.length = n := ⟨_, rfl⟩
                    have hn2 : n ≤ 100000 := by have := HFEW.out; omega
                    have hfl5 := HFL5.out
                    rw [hn] at hfl5
                    have HFN := Lib.hid hfl5
                    have HNN := Lib.hid hn
                    rw [hn] at c10
                    have hw5s : w.heap.size ≤ w5.heap.size := HKP5.out.size
                    clear hb hk hw5 hw5' HCFG4 HFL4 HRES4 HOWN4 HMET4 HKP4 hfl5
                    go_wp2_with (at_builtin; refine wp_app1 tFlw (.tmp 92) (.tmp 94) rfl rfl w.heap.size (HFN.out.alloc _) (enFl f) rfl rfl rfl (heap_newC _ _ (by simp)) rfl (by omega) (by omega) (by simp; omega) ?_)
                    intro g6 cap6 w6 hown6 hgrow6
                    have k6 : Kp (fun b => (Value.slice vo n vc).ownBlock = some b) w5 w6 := ((Kp.refl _ w5).alloc _).grown hgrow6 (fun k hk => .inl hk)
                    have hcfg6 : Blk w6 b5 (enC st.c (.slice vo st.c.flows.length vc)) 25 := HCFG5.out.kp k6 (fun e => own_ne_blk HFN.out HCFG5.out (by decide) e)
                    have HRES6 : Hid (Blk w6 b2 (enC zC (.slice none 0 0)) 25) := HRES5.out.kp k6 (fun e => own_ne_blk HFN.out HRES5.out (by decide) e)
                    have HOWN6 := Lib.hid (own_kp HOWN5.out k6 (fun b hb e => own_ne_own HOWN5.out HFN.out (by decide) b hb e))
                    have HMET6 := Lib.hid (own_kp HMET5.out k6 (fun b hb e => own_ne_own HMET5.out HFN.out (by decide) b hb e))
                    have HKP6 : Hid (Kp none' w w6) := HKP5.out.then k6 (fun i hi e => by have := (own_block HFN.out e).1; omega)
                    have c10 := hcfg6.cell 10 rfl
                    have y10 := hcfg6.fz 10
                    have HCFG6 := Lib.hid hcfg6
                    have HFL6 := Lib.hid hown6
                    clear hown6 hgrow6 k6 hcfg6 b0 b1 b2' b3 b4
                    have hcb := Lib.hid (kp_at w6 b5 10 (.slice (some ⟨g6, 0, none⟩) (n + 1) cap6))
                    have HRES7 : Hid (Blk (w6.setCell ⟨b5, 10, none⟩ (.slice (some ⟨g6, 0, none⟩) (n + 1) cap6)) b2 (enC zC (.slice none 0 0)) 25) := HRES6.out.kp hcb.out (fun e => hne25 e)
                    have HKP7 : Hid (Kp none' w (w6.setCell ⟨b5, 10, none⟩ (.slice (some ⟨g6, 0, none⟩) (n + 1) cap6))) := HKP6.out.then hcb.out (fun i hi e => by have e2 : i = b5 := e; omega)
                    by_cases hF0 : F = 0
                    · have hst : RrI (parts 10 (bl s)) w (w6.setCell ⟨b5, 10, none⟩ (.slice (some ⟨g6, 0, none⟩) (n + 1) cap6)) b2 b5 lg lc (.slice (some ⟨g3, 0, none⟩) (L + 1) cap3) (k + 1) (.slice (some ⟨g6, 0, none⟩) (n + 1) cap6) ⟨{ st.c with flows := st.c.flows ++ [f] }, st.met ++ [10]⟩ := by
                        have hll := HLF.out
                        rw [if_neg (by simp [hF0]), HFV.out hF0] at hll
                        have hg := gud_next' hkp HX.out HGOOD.out HSF.out (by rw [HW2.out, hll])
                        rw [HW2.out, hll] at hg
                        refine ⟨hg, HCFG6.out.set 10 _, ?_, ?_, HRES7.out, ?_, ok_flow HOK.out HFOK.out, ⟨by have := HFEW.out; simp; omega, by have := HFEW.out; simp; omega⟩, HKP7.out⟩
                        · show World.ownsRow _ _ _ _ _ (st.c.flows ++ [f]).length ((st.c.flows ++ [f]).flatMap enFl)
                          rw [List.flatMap_append, List.length_append, HNN.out]
                          exact own_setNe (by simpa using HFL6.out) (fun b hb e => own_ne_blk HFL6.out HCFG6.out (by decide) (by rw [hb]; exact congrArg some e)) _
                        · have hm := HMET6.out
                          show World.ownsRow _ _ _ _ _ (st.met ++ [10]).length (mets (st.met ++ [10]))
                          have e1 : (st.met ++ [10]).length = L + 1 := by simp [hL]
                          rw [e1]
                          exact own_setNe (by simpa [mets] using hm) (fun b hb e => own_ne_blk hm HCFG6.out (by decide) (by rw [hb]; exact congrArg some e)) _
                        · exact own_setNe HOWN6.out (fun b hb e => own_ne_blk HOWN6.out HCFG6.out (by decide) (by rw [hb]; exact congrArg some e)) _
                      have HST := Lib.hid hst
                      subst hF0
                      clear hst
                      go_wp2_with fail
                      go_roundw
                      case rel => exact ⟨k + 1, _, _, by go_num, by omega, HST.out⟩
                      case measure => simp [intOf]; omega
                    · have HBAD := Lib.hid (HBE.out F (by rw [HLF.out, if_pos hF0]) hF0)
                      have hb : (F != 0) = true := by simpa using hF0
                      clear hF0
                      go_wp2_with (first
                        | (refine wp_set_row rfl 25 (.tmp 2) (.tmp 111) rfl HRES7.out (enC zC (.slice none 0 0)) rfl rfl infoC rfl (oneC zC rfl) ?_
                           intro W8 hB8 hO8 hK8
                           have HB8 := Lib.hid hB8; have HK8 := Lib.hid (hK8 _ _ HKP7.out (.inr hl2))
                           clear hB8 hO8 hK8))
                      refine ret_row3 (by rfl) HB8.out _ Tryd.underlying25 rfl infoC (by rfl) ?_
                      refine ⟨.slice none 0 0, ?_, ?_, ?_, HK8.out⟩
                      · rw [HBAD.out]; rfl
                      · rw [HBAD.out]; exact Sl.nil _ _
                      · rw [HBAD.out]; exact zC_ok
              · have hp9 : p < 10 := by omega
                rw [if_neg hp10] at hwant
                have hM2 : M = 2 := by rw [← HMM.out]; exact hwant
                subst hM2
                obtain ⟨y0, rfl⟩ : ∃ y0, r = [y0] := by
                  match r, hwant with
                  | [y0], _ => exact ⟨_, rfl⟩
                have hpb : ((p : Int) == 10) = false := by rw [beq_eq_false_iff_ne]; omega
                have hp9i : (p : Int) < 10 := by omega
                go_wp2_with fail
                obtain ⟨L, hL⟩ : ∃ L, st.met.length = L := ⟨_, rfl⟩
                have hLb : L ≤ 100000 := by have := hr.out.few; omega
                rw [hL]
                go_loopw [12] (fun i0 wr => ∃ j : Nat, i0 = .int .i64 j ∧ j ≤ L ∧ Hid (wr = w2) ∧ Hid (∀ i (h : i < st.met.length), i < j → st.met[i] ≠ p)) (fun i0 _ => L - (intOf i0).toNat)
                case atStart => exact ⟨0, rfl, by omega, rfl, fun i _ h => by omega⟩
                case round =>
                  obtain ⟨j, rfl, hj, hw2, hno⟩ := hrel
                  have hw2' := hw2.out
                  subst hw2'
                  by_cases hjl : j < L
                  · have hji : (j : Int) < L := by omega
                    obtain ⟨gm, cm, e, _⟩ := own_shape1 HR2.out.met (by omega)
                    injection e with e1 _ _
                    have hjm : j < st.met.length := by omega
                    obtain ⟨q, hq⟩ : ∃ q, st.met[j] = q := ⟨_, rfl⟩
                    have hmc : wr.cell? ⟨gm, j, none⟩ = some (.int .i64 q) := by
                      have := HR2.out.met
                      rw [e1] at this
                      exact own_cell this j (by simp [mets, hjm, hq])
                    subst e1
                    clear hL
                    by_cases hqp : q = p
                    · have hmem : p ∈ st.met := by rw [← hqp, ← hq]; exact List.getElem_mem hjm
                      have HBAD := Lib.hid (HBE.out 31 (by rw [line_bad HPP.out (.inr (.inr ⟨hp9, hmem⟩))]) (by decide))
                      subst hqp
                      clear hmem
                      go_wp2_with (first
                        | (refine wp_set_row rfl 25 (.tmp 2) (.tmp 76) rfl HRES.out (enC zC (.slice none 0 0)) rfl rfl infoC rfl (oneC zC rfl) ?_
                           intro W8 hB8 hO8 hK8
                           have HB8 := Lib.hid hB8; have HK8 := Lib.hid (hK8 _ _ HR2.out.kp (.inr hl2))
                           clear hB8 hO8 hK8))
                      refine ret_row3 (by rfl) HB8.out _ Tryd.underlying25 rfl infoC (by rfl) ?_
                      refine ⟨.slice none 0 0, ?_, ?_, ?_, HK8.out⟩
                      · rw [HBAD.out]; rfl
                      · rw [HBAD.out]; exact Sl.nil _ _
                      · rw [HBAD.out]; exact zC_ok
                    · have hqb : ((q : Int) == p) = false := by rw [beq_eq_false_iff_ne]; omega
                      have HNO : Hid (∀ i (h : i < st.met.length), i < j + 1 → st.met[i] ≠ p) := fun i h hi => by
                        by_cases e : i = j
                        · subst e; rw [hq]; exact hqp
                        · exact hno.out i h (by omega)
                      clear hqp hq
                      go_wp2
                      go_roundw
                      case rel => exact ⟨j + 1, by go_num, by omega, True.intro, HNO.out⟩
                      case measure => simp [intOf]; omega
                  · have hjn : ¬ (j : Int) < L := by omega
                    have HNM : Hid (p < 10 → p ∉ st.met) := fun _ h => by
                      obtain ⟨i, hi, e⟩ := List.getElem_of_mem h
                      exact hno.out i hi (by omega) e
                    have hown2 := HR2.out.met
                    rw [hL] at hown2
                    have HO2 := Lib.hid hown2
                    have hB2 : w.heap.size ≤ wr.heap.size := HR2.out.kp.size
                    clear hown2
                    go_wp2_with (at_builtin; refine wp_app1 tInt (.tmp 79) (.tmp 81) rfl rfl w.heap.size (HO2.out.alloc _) [.int .i64 _] rfl rfl rfl (heap_newC _ _ (by simp)) rfl (by omega) (by omega) (by simp; omega) ?_)
                    intro g3 cap3 w3 hown3 hgrow
                    have k3 : Kp (fun b => (Value.slice mo L mc).ownBlock = some b) wr w3 := ((Kp.refl _ wr).alloc _).grown hgrow (fun k hk => .inl hk)
                    have HCFG3 : Hid (Blk w3 b5 (enC st.c v) 25) := HR2.out.cfg.kp k3 (fun e => own_ne_blk HO2.out HR2.out.cfg (by decide) e)
                    have HFL3 := Lib.hid (own_kp HR2.out.fl k3 (fun b hb e => own_ne_own HR2.out.fl HO2.out (by decide) b hb e))
                    have HRES3 : Hid (Blk w3 b2 (enC zC (.slice none 0 0)) 25) := HR2.out.res.kp k3 (fun e => own_ne_blk HO2.out HR2.out.res (by decide) e)
                    have HOWN3 := Lib.hid (own_kp HR2.out.own k3 (fun b hb e => own_ne_own HR2.out.own HO2.out (by decide) b hb e))
                    have hw2r := own_kp (S := none') HW1.out HK12.out (fun _ _ x => x)
                    have HW3 := Lib.hid (own_kp hw2r k3 (fun b hb e => own_ne_own hw2r HO2.out (by decide) b hb e))
                    have HKP3 : Hid (Kp none' w w3) := HR2.out.kp.then k3 (fun i hi e => by have := (own_block HO2.out e).1; omega)
                    have HMET3 := Lib.hid hown3
                    have HFEW := Lib.hid HR2.out.few
                    have HOK := Lib.hid HR2.out.ok
                    have HGOOD := Lib.hid HR2.out.good
                    clear hown3 hgrow k3 hw2r
                    have d1 := own_cell HW3.out 1 (u := .string y0) rfl
                    obtain ⟨⟨n, E⟩, hq⟩ : ∃ q, sayE p (bl y0) = q := ⟨_, rfl⟩
                    obtain ⟨vo, vc, rfl⟩ := own_shape HFL3.out
                    have hvv : (Value.slice vo st.c.flows.length vc).oneCell' = true := rfl
                    have HSAY := Lib.hid (fun W => rSay p hp9 st.c (.slice vo st.c.flows.length vc) hvv y0 (HSZ.out _ (by simp)) n E hq W)
                    have hlf := line_one (s := st) (l0 := bl y) (l1 := bl y0) HPP.out hp9 (HNM.out hp9) hq
                    have HLF : Hid (lineS st ([y, y0].map bl) = if E ≠ 0 then (st, E) else (⟨setAt st.c p n, st.met ++ [p]⟩, 0)) := hlf
                    have HSC : Hid (E = 0 → sayC st.c p n E = setAt st.c p n) := fun h => by unfold sayC; rw [if_pos h]
                    have HNBB : Hid (E = 0 → (setAt st.c p n).ok) := fun h => by
                      rw [h] at hq
                      exact setAt_ok HOK.out p n (say_le hq).1 (say_le hq).2
                    obtain ⟨d, hd⟩ : ∃ d, sayC st.c p n E = d := ⟨_, rfl⟩
                    rw [hd] at HSAY HSC
                    unfold enC at HSAY
                    have hcp : (2 : Int) ≤ cap1 := by simp at hc1; omega
                    have HVV := Lib.hid hvv
                    have ca1 := ((Kp.refl none' w3).alloc (.cells #[.int .i64 0, .int .i64 0, .int .i64 0, .int .i64 0, .int .i64 0, .int .u64 0, .int .i64 0, .int .u64 0, .int .u64 0, .int .u64 0, .slice none 0 0] 25)).cell (a := ⟨g1, 1, none⟩) d1 (fun x => x)
                    have hs3 : w.heap.size ≤ w3.heap.size := HKP3.out.size
                    have HNB : Hid (b5 ≠ w3.heap.size) := by have := HCFG3.out.lt; show ¬ _; omega
                    have HNG : Hid (g1 ≠ w3.heap.size) := by have h1 := cell_lt d1; have h2 : g1 < w3.heap.size := h1; show ¬ _; omega
                    clear hlf hq hvv hd
                    have x0 : w3.cell? ⟨b5, 0, none⟩ = some (.int .i64 st.c.rank) := HCFG3.out.cell 0 rfl
                    have x1 : w3.cell? ⟨b5, 1, none⟩ = some (.int .i64 st.c.back) := HCFG3.out.cell 1 rfl
                    have x2 : w3.cell? ⟨b5, 2, none⟩ = some (.int .i64 st.c.levels) := HCFG3.out.cell 2 rfl
                    have x3 : w3.cell? ⟨b5, 3, none⟩ = some (.int .i64 st.c.queues) := HCFG3.out.cell 3 rfl
                    have x4 : w3.cell? ⟨b5, 4, none⟩ = some (.int .i64 st.c.packets) := HCFG3.out.cell 4 rfl
                    have x5 : w3.cell? ⟨b5, 5, none⟩ = some (.int .u64 st.c.bytes) := HCFG3.out.cell 5 rfl
                    have x6 : w3.cell? ⟨b5, 6, none⟩ = some (.int .i64 st.c.share) := HCFG3.out.cell 6 rfl
                    have x7 : w3.cell? ⟨b5, 7, none⟩ = some (.int .u64 st.c.mtu) := HCFG3.out.cell 7 rfl
                    have x8 : w3.cell? ⟨b5, 8, none⟩ = some (.int .u64 st.c.rate) := HCFG3.out.cell 8 rfl
                    have x9 : w3.cell? ⟨b5, 9, none⟩ = some (.int .u64 st.c.burst) := HCFG3.out.cell 9 rfl
                    have x10 : w3.cell? ⟨b5, 10, none⟩ = some (.slice vo st.c.flows.length vc) := HCFG3.out.cell 10 rfl
                    go_wp2_with fail
                    go_region_held3 (fun w' => w'.cell? ⟨b5, 0, none⟩ = some (.int .i64 st.c.rank) ∧ w'.cell? ⟨b5, 1, none⟩ = some (.int .i64 st.c.back) ∧ w'.cell? ⟨b5, 2, none⟩ = some (.int .i64 st.c.levels) ∧ w'.cell? ⟨b5, 3, none⟩ = some (.int .i64 st.c.queues) ∧ w'.cell? ⟨b5, 4, none⟩ = some (.int .i64 st.c.packets) ∧ w'.cell? ⟨b5, 5, none⟩ = some (.int .u64 st.c.bytes) ∧ w'.cell? ⟨b5, 6, none⟩ = some (.int .i64 st.c.share) ∧ w'.cell? ⟨b5, 7, none⟩ = some (.int .u64 st.c.mtu) ∧ w'.cell? ⟨b5, 8, none⟩ = some (.int .u64 st.c.rate) ∧ w'.cell? ⟨b5, 9, none⟩ = some (.int .u64 st.c.burst) ∧ w'.cell? ⟨b5, 10, none⟩ = some (.slice vo st.c.flows.length vc) ∧ w'.cell? ⟨g1, 1, none⟩ = some (.string y0)) (first | go_keep | exact ⟨(kp11 w4 _ _ _ _ _ _ _ _ _ _ _ _).cell (a := ⟨b5, 0, none⟩) e0 HNB.out, (kp11 w4 _ _ _ _ _ _ _ _ _ _ _ _).cell (a := ⟨b5, 1, none⟩) e1 HNB.out, (kp11 w4 _ _ _ _ _ _ _ _ _ _ _ _).cell (a := ⟨b5, 2, none⟩) e2 HNB.out, (kp11 w4 _ _ _ _ _ _ _ _ _ _ _ _).cell (a := ⟨b5, 3, none⟩) e3 HNB.out, (kp11 w4 _ _ _ _ _ _ _ _ _ _ _ _).cell (a := ⟨b5, 4, none⟩) e4 HNB.out, (kp11 w4 _ _ _ _ _ _ _ _ _ _ _ _).cell (a := ⟨b5, 5, none⟩) e5 HNB.out, (kp11 w4 _ _ _ _ _ _ _ _ _ _ _ _).cell (a := ⟨b5, 6, none⟩) e6 HNB.out, (kp11 w4 _ _ _ _ _ _ _ _ _ _ _ _).cell (a := ⟨b5, 7, none⟩) e7 HNB.out, (kp11 w4 _ _ _ _ _ _ _ _ _ _ _ _).cell (a := ⟨b5, 8, none⟩) e8 HNB.out, (kp11 w4 _ _ _ _ _ _ _ _ _ _ _ _).cell (a := ⟨b5, 9, none⟩) e9 HNB.out, (kp11 w4 _ _ _ _ _ _ _ _ _ _ _ _).cell (a := ⟨b5, 10, none⟩) e10 HNB.out, (kp11 w4 _ _ _ _ _ _ _ _ _ _ _ _).cell (a := ⟨g1, 1, none⟩) e11 HNG.out⟩)
                      ((first
                        | (go_at_call 35; refine (HSAY.out _).mono ?_; rintro e w4 ⟨rfl, k4⟩; (first | (have HK4 : Hid (Kp none' w3 w4) := (Kp.refl none' w3).drew.trans k4) | (have HK4 : Hid (Kp none' w3 w4) := ((Kp.refl none' w3).alloc (.cells #[.int .i64 0, .int .i64 0, .int .i64 0, .int .i64 0, .int .i64 0, .int .u64 0, .int .i64 0, .int .u64 0, .int .u64 0, .int .u64 0, .slice none 0 0] 25)).drew.trans k4; have HBZ : Hid (Blk w4 w3.heap.size (enC zC (.slice none 0 0)) 25) := ((Blk.new w3 (enC zC (.slice none 0 0)) 25).drew).kp k4 (fun x => x); have q0 := HBZ.out.cell 0 rfl; have z0 := HBZ.out.fz 0; have q1 := HBZ.out.cell 1 rfl; have z1 := HBZ.out.fz 1; have q2 := HBZ.out.cell 2 rfl; have z2 := HBZ.out.fz 2; have q3 := HBZ.out.cell 3 rfl; have z3 := HBZ.out.fz 3; have q4 := HBZ.out.cell 4 rfl; have z4 := HBZ.out.fz 4; have q5 := HBZ.out.cell 5 rfl; have z5 := HBZ.out.fz 5; have q6 := HBZ.out.cell 6 rfl; have z6 := HBZ.out.fz 6; have q7 := HBZ.out.cell 7 rfl; have z7 := HBZ.out.fz 7; have q8 := HBZ.out.cell 8 rfl; have z8 := HBZ.out.fz 8; have q9 := HBZ.out.cell 9 rfl; have z9 := HBZ.out.fz 9; have q10 := HBZ.out.cell 10 rfl; have z10 := HBZ.out.fz 10)); have e0 := HK4.out.cell (a := ⟨b5, 0, none⟩) x0 (fun x => x); have e1 := HK4.out.cell (a := ⟨b5, 1, none⟩) x1 (fun x => x); have e2 := HK4.out.cell (a := ⟨b5, 2, none⟩) x2 (fun x => x); have e3 := HK4.out.cell (a := ⟨b5, 3, none⟩) x3 (fun x => x); have e4 := HK4.out.cell (a := ⟨b5, 4, none⟩) x4 (fun x => x); have e5 := HK4.out.cell (a := ⟨b5, 5, none⟩) x5 (fun x => x); have e6 := HK4.out.cell (a := ⟨b5, 6, none⟩) x6 (fun x => x); have e7 := HK4.out.cell (a := ⟨b5, 7, none⟩) x7 (fun x => x); have e8 := HK4.out.cell (a := ⟨b5, 8, none⟩) x8 (fun x => x); have e9 := HK4.out.cell (a := ⟨b5, 9, none⟩) x9 (fun x => x); have e10 := HK4.out.cell (a := ⟨b5, 10, none⟩) x10 (fun x => x); have e11 := HK4.out.cell (a := ⟨g1, 1, none⟩) d1 (fun x => x); clear k4)))
                    · have HB5 : Hid (Blk (w4.alloc (.cells (enC d (.slice vo st.c.flows.length vc)).toArray 25)) w4.heap.size (enC d (.slice vo st.c.flows.length vc)) 25) := Blk.new w4 (enC d (.slice vo st.c.flows.length vc)) 25
                      have HK5 : Hid (Kp none' w3 (w4.alloc (.cells (enC d (.slice vo st.c.flows.length vc)).toArray 25))) := HK4.out.alloc _
                      clear x0 x1 x2 x3 x4 x5 x6 x7 x8 x9 x10 e0 e1 e2 e3 e4 e5 e6 e7 e8 e9 e10 e11 d1 ca1
                      have HCFG5 := Lib.hid (HCFG3.out.kp HK5.out (fun x => x)); have HFL5 := Lib.hid (own_kp (S := none') HFL3.out HK5.out (fun _ _ x => x)); have HRES5 := Lib.hid (HRES3.out.kp HK5.out (fun x => x)); have HOWN5 := Lib.hid (own_kp (S := none') HOWN3.out HK5.out (fun _ _ x => x)); have HMET5 := Lib.hid (own_kp (S := none') HMET3.out HK5.out (fun _ _ x => x)); have HKP5 := Lib.hid (HKP3.out.trans HK5.out)
                      by_cases hE0 : E = 0
                      · subst hE0
                        go_wp2_with (first
                          | (refine wp_get_row rfl 25 (.tmp 16) rfl HB5.out _ rfl Tryd.underlying25 rfl infoC ?_)
                          | (refine wp_set_row rfl 25 (.tmp 5) (.tmp 107) rfl HCFG5.out (enC d (.slice vo st.c.flows.length vc)) rfl rfl infoC rfl (oneC d HVV.out) ?_
                             intro W6 hB6 hO6 hK6
                             have HCFG6 := Lib.hid hB6; have HRES6 := Lib.hid (hO6 _ _ _ HRES5.out hne25); have hk6 := hK6 _ _ (Kp.refl (fun b => b = b5) _) (.inl rfl)
                             have HFL6 := Lib.hid (own_kp HFL5.out hk6 (fun b hb e => own_ne_blk HFL5.out HCFG5.out (by decide) (by rw [hb]; exact congrArg some e)))
                             have HMET6 := Lib.hid (own_kp HMET5.out hk6 (fun b hb e => own_ne_blk HMET5.out HCFG5.out (by decide) (by rw [hb]; exact congrArg some e)))
                             have HOWN6 := Lib.hid (own_kp HOWN5.out hk6 (fun b hb e => own_ne_blk HOWN5.out HCFG5.out (by decide) (by rw [hb]; exact congrArg some e)))
                             have HKP6 : Hid (Kp none' w W6) := hK6 _ _ HKP5.out (.inr hl5)
                             clear hB6 hO6 hK6 hk6))
                        have hst : RrI (parts 10 (bl s)) w W6 b2 b5 lg lc (.slice (some ⟨g3, 0, none⟩) (L + 1) cap3) (k + 1) (.slice vo st.c.flows.length vc) ⟨setAt st.c p n, st.met ++ [p]⟩ := by
                          have hll := HLF.out
                          rw [if_neg (by simp)] at hll
                          have hg := gud_next' hkp HX.out HGOOD.out HSF.out (by rw [HW2.out, hll])
                          rw [HW2.out, hll] at hg
                          have hds := HSC.out rfl
                          refine ⟨hg, by have h := HCFG6.out; rw [hds] at h; exact h, ?_, ?_, HRES6.out, HOWN6.out, HNBB.out rfl, ⟨by have := HFEW.out; simp; omega, ?_⟩, HKP6.out⟩
                          · show World.ownsRow _ _ _ _ _ (setAt st.c p n).flows.length ((setAt st.c p n).flows.flatMap enFl)
                            rw [setAt_flows]
                            exact HFL6.out
                          · have hm := HMET6.out
                            show World.ownsRow _ _ _ _ _ (st.met ++ [p]).length (mets (st.met ++ [p]))
                            have e1 : (st.met ++ [p]).length = L + 1 := by simp [hL]
                            rw [e1]
                            simpa [mets] using hm
                          · show (setAt st.c p n).flows.length ≤ _
                            rw [setAt_flows]; have := HFEW.out; omega
                        have HST := Lib.hid hst
                        clear hst
                        go_wp2_with fail
                        go_roundw
                        case rel => exact ⟨k + 1, _, _, by go_num, by omega, HST.out⟩
                        case measure => simp [intOf]; omega
                      · have HBAD := Lib.hid (HBE.out E (by rw [HLF.out, if_pos hE0]) hE0)
                        have hb : (E != 0) = true := by simpa using hE0
                        clear hE0
                        go_wp2_with (first
                          | (refine wp_get_row rfl 25 (.tmp 16) rfl HB5.out _ rfl Tryd.underlying25 rfl infoC ?_)
                          | (refine wp_set_row rfl 25 (.tmp 5) (.tmp 107) rfl HCFG5.out (enC d (.slice vo st.c.flows.length vc)) rfl rfl infoC rfl (oneC d HVV.out) ?_
                             intro W6 hB6 hO6 hK6
                             have HCFG6 := Lib.hid hB6; have HRES6 := Lib.hid (hO6 _ _ _ HRES5.out hne25); have hk6 := hK6 _ _ (Kp.refl (fun b => b = b5) _) (.inl rfl)
                             have HFL6 := Lib.hid (own_kp HFL5.out hk6 (fun b hb e => own_ne_blk HFL5.out HCFG5.out (by decide) (by rw [hb]; exact congrArg some e)))
                             have HMET6 := Lib.hid (own_kp HMET5.out hk6 (fun b hb e => own_ne_blk HMET5.out HCFG5.out (by decide) (by rw [hb]; exact congrArg some e)))
                             have HOWN6 := Lib.hid (own_kp HOWN5.out hk6 (fun b hb e => own_ne_blk HOWN5.out HCFG5.out (by decide) (by rw [hb]; exact congrArg some e)))
                             have HKP6 : Hid (Kp none' w W6) := hK6 _ _ HKP5.out (.inr hl5)
                             clear hB6 hO6 hK6 hk6)
                          | (refine wp_set_row rfl 25 (.tmp 2) (.tmp 111) rfl HRES6.out (enC zC (.slice none 0 0)) rfl rfl infoC rfl (oneC zC rfl) ?_
                             intro W8 hB8 hO8 hK8
                             have HB8 := Lib.hid hB8; have HK8 := Lib.hid (hK8 _ _ HKP6.out (.inr hl2))
                             clear hB8 hO8 hK8))
                        refine ret_row3 (by rfl) HB8.out _ Tryd.underlying25 rfl infoC (by rfl) ?_
                        refine ⟨.slice none 0 0, ?_, ?_, ?_, HK8.out⟩
                        · rw [HBAD.out]; rfl
                        · rw [HBAD.out]; exact Sl.nil _ _
                        · rw [HBAD.out]; exact zC_ok
                    · obtain ⟨w5, h5⟩ : ∃ W, (((((((((((w4.setCell ⟨w3.heap.size, 0, none⟩ (.int .i64 d.rank)).setCell ⟨w3.heap.size, 1, none⟩ (.int .i64 d.back)).setCell ⟨w3.heap.size, 2, none⟩ (.int .i64 d.levels)).setCell ⟨w3.heap.size, 3, none⟩ (.int .i64 d.queues)).setCell ⟨w3.heap.size, 4, none⟩ (.int .i64 d.packets)).setCell ⟨w3.heap.size, 5, none⟩ (.int .u64 d.bytes)).setCell ⟨w3.heap.size, 6, none⟩ (.int .i64 d.share)).setCell ⟨w3.heap.size, 7, none⟩ (.int .u64 d.mtu)).setCell ⟨w3.heap.size, 8, none⟩ (.int .u64 d.rate)).setCell ⟨w3.heap.size, 9, none⟩ (.int .u64 d.burst)).setCell ⟨w3.heap.size, 10, none⟩ (.slice vo st.c.flows.length vc)) = W := ⟨_, rfl⟩
                      have HB5 : Hid (Blk w5 w3.heap.size (enC d (.slice vo st.c.flows.length vc)) 25) := by rw [← h5]; exact blk11 HBZ.out (.int .i64 d.rank) (.int .i64 d.back) (.int .i64 d.levels) (.int .i64 d.queues) (.int .i64 d.packets) (.int .u64 d.bytes) (.int .i64 d.share) (.int .u64 d.mtu) (.int .u64 d.rate) (.int .u64 d.burst) (.slice vo st.c.flows.length vc)
                      have HK5 : Hid (Kp none' w3 w5) := by rw [← h5]; exact HK4.out.then (S := none') (kp11 w4 w3.heap.size (.int .i64 d.rank) (.int .i64 d.back) (.int .i64 d.levels) (.int .i64 d.queues) (.int .i64 d.packets) (.int .u64 d.bytes) (.int .i64 d.share) (.int .u64 d.mtu) (.int .u64 d.rate) (.int .u64 d.burst) (.slice vo st.c.flows.length vc)) (fun i hi e => by have e2 : i = w3.heap.size := e; omega)
                      rw [h5]
                      clear h5 x0 x1 x2 x3 x4 x5 x6 x7 x8 x9 x10 e0 e1 e2 e3 e4 e5 e6 e7 e8 e9 e10 e11 d1 ca1 q0 z0 q1 z1 q2 z2 q3 z3 q4 z4 q5 z5 q6 z6 q7 z7 q8 z8 q9 z9 q10 z10
                      have HCFG5 := Lib.hid (HCFG3.out.kp HK5.out (fun x => x)); have HFL5 := Lib.hid (own_kp (S := none') HFL3.out HK5.out (fun _ _ x => x)); have HRES5 := Lib.hid (HRES3.out.kp HK5.out (fun x => x)); have HOWN5 := Lib.hid (own_kp (S := none') HOWN3.out HK5.out (fun _ _ x => x)); have HMET5 := Lib.hid (own_kp (S := none') HMET3.out HK5.out (fun _ _ x => x)); have HKP5 := Lib.hid (HKP3.out.trans HK5.out)
                      by_cases hE0 : E = 0
                      · subst hE0
                        go_wp2_with (first
                          | (refine wp_get_row rfl 25 (.tmp 16) rfl HB5.out _ rfl Tryd.underlying25 rfl infoC ?_)
                          | (refine wp_set_row rfl 25 (.tmp 5) (.tmp 107) rfl HCFG5.out (enC d (.slice vo st.c.flows.length vc)) rfl rfl infoC rfl (oneC d HVV.out) ?_
                             intro W6 hB6 hO6 hK6
                             have HCFG6 := Lib.hid hB6; have HRES6 := Lib.hid (hO6 _ _ _ HRES5.out hne25); have hk6 := hK6 _ _ (Kp.refl (fun b => b = b5) _) (.inl rfl)
                             have HFL6 := Lib.hid (own_kp HFL5.out hk6 (fun b hb e => own_ne_blk HFL5.out HCFG5.out (by decide) (by rw [hb]; exact congrArg some e)))
                             have HMET6 := Lib.hid (own_kp HMET5.out hk6 (fun b hb e => own_ne_blk HMET5.out HCFG5.out (by decide) (by rw [hb]; exact congrArg some e)))
                             have HOWN6 := Lib.hid (own_kp HOWN5.out hk6 (fun b hb e => own_ne_blk HOWN5.out HCFG5.out (by decide) (by rw [hb]; exact congrArg some e)))
                             have HKP6 : Hid (Kp none' w W6) := hK6 _ _ HKP5.out (.inr hl5)
                             clear hB6 hO6 hK6 hk6))
                        have hst : RrI (parts 10 (bl s)) w W6 b2 b5 lg lc (.slice (some ⟨g3, 0, none⟩) (L + 1) cap3) (k + 1) (.slice vo st.c.flows.length vc) ⟨setAt st.c p n, st.met ++ [p]⟩ := by
                          have hll := HLF.out
                          rw [if_neg (by simp)] at hll
                          have hg := gud_next' hkp HX.out HGOOD.out HSF.out (by rw [HW2.out, hll])
                          rw [HW2.out, hll] at hg
                          have hds := HSC.out rfl
                          refine ⟨hg, by have h := HCFG6.out; rw [hds] at h; exact h, ?_, ?_, HRES6.out, HOWN6.out, HNBB.out rfl, ⟨by have := HFEW.out; simp; omega, ?_⟩, HKP6.out⟩
                          · show World.ownsRow _ _ _ _ _ (setAt st.c p n).flows.length ((setAt st.c p n).flows.flatMap enFl)
                            rw [setAt_flows]
                            exact HFL6.out
                          · have hm := HMET6.out
                            show World.ownsRow _ _ _ _ _ (st.met ++ [p]).length (mets (st.met ++ [p]))
                            have e1 : (st.met ++ [p]).length = L + 1 := by simp [hL]
                            rw [e1]
                            simpa [mets] using hm
                          · show (setAt st.c p n).flows.length ≤ _
                            rw [setAt_flows]; have := HFEW.out; omega
                        have HST := Lib.hid hst
                        clear hst
                        go_wp2_with fail
                        go_roundw
                        case rel => exact ⟨k + 1, _, _, by go_num, by omega, HST.out⟩
                        case measure => simp [intOf]; omega
                      · have HBAD := Lib.hid (HBE.out E (by rw [HLF.out, if_pos hE0]) hE0)
                        have hb : (E != 0) = true := by simpa using hE0
                        clear hE0
                        go_wp2_with (first
                          | (refine wp_get_row rfl 25 (.tmp 16) rfl HB5.out _ rfl Tryd.underlying25 rfl infoC ?_)
                          | (refine wp_set_row rfl 25 (.tmp 5) (.tmp 107) rfl HCFG5.out (enC d (.slice vo st.c.flows.length vc)) rfl rfl infoC rfl (oneC d HVV.out) ?_
                             intro W6 hB6 hO6 hK6
                             have HCFG6 := Lib.hid hB6; have HRES6 := Lib.hid (hO6 _ _ _ HRES5.out hne25); have hk6 := hK6 _ _ (Kp.refl (fun b => b = b5) _) (.inl rfl)
                             have HFL6 := Lib.hid (own_kp HFL5.out hk6 (fun b hb e => own_ne_blk HFL5.out HCFG5.out (by decide) (by rw [hb]; exact congrArg some e)))
                             have HMET6 := Lib.hid (own_kp HMET5.out hk6 (fun b hb e => own_ne_blk HMET5.out HCFG5.out (by decide) (by rw [hb]; exact congrArg some e)))
                             have HOWN6 := Lib.hid (own_kp HOWN5.out hk6 (fun b hb e => own_ne_blk HOWN5.out HCFG5.out (by decide) (by rw [hb]; exact congrArg some e)))
                             have HKP6 : Hid (Kp none' w W6) := hK6 _ _ HKP5.out (.inr hl5)
                             clear hB6 hO6 hK6 hk6)
                          | (refine wp_set_row rfl 25 (.tmp 2) (.tmp 111) rfl HRES6.out (enC zC (.slice none 0 0)) rfl rfl infoC rfl (oneC zC rfl) ?_
                             intro W8 hB8 hO8 hK8
                             have HB8 := Lib.hid hB8; have HK8 := Lib.hid (hK8 _ _ HKP6.out (.inr hl2))
                             clear hB8 hO8 hK8))
                        refine ret_row3 (by rfl) HB8.out _ Tryd.underlying25 rfl infoC (by rfl) ?_
                        refine ⟨.slice none 0 0, ?_, ?_, ?_, HK8.out⟩
                        · rw [HBAD.out]; rfl
                        · rw [HBAD.out]; exact Sl.nil _ _
                        · rw [HBAD.out]; exact zC_ok
            · have HBAD := Lib.hid (HBE.out 31 (by rw [line_bad HPP.out (.inr (.inl (by rw [List.length_map]; exact hwant)))]) (by decide))
              by_cases hp10 : p = 10
              · subst hp10
                rw [if_pos rfl, HMM.out] at hwant
                have hb : ((M : Int) != 6) = true := by rw [bne_iff_ne]; omega
                clear hwant hp11
                go_wp2_with (first
                  | (refine wp_set_row rfl 25 (.tmp 2) (.tmp 57) rfl HRES.out (enC zC (.slice none 0 0)) rfl rfl infoC rfl (oneC zC rfl) ?_
                     intro W8 hB8 hO8 hK8
                     have HB8 := Lib.hid hB8; have HK8 := Lib.hid (hK8 _ _ HR2.out.kp (.inr hl2))
                     clear hB8 hO8 hK8))
                refine ret_row3 (by rfl) HB8.out _ Tryd.underlying25 rfl infoC (by rfl) ?_
                refine ⟨.slice none 0 0, ?_, ?_, ?_, HK8.out⟩
                · rw [HBAD.out]; rfl
                · rw [HBAD.out]; exact Sl.nil _ _
                · rw [HBAD.out]; exact zC_ok
              · rw [if_neg hp10, HMM.out] at hwant
                have hb : ((M : Int) != 2) = true := by rw [bne_iff_ne]; omega
                have hpb : ((p : Int) == 10) = false := by rw [beq_eq_false_iff_ne]; omega
                clear hwant hp11 hp10
                go_wp2_with (first
                  | (refine wp_set_row rfl 25 (.tmp 2) (.tmp 57) rfl HRES.out (enC zC (.slice none 0 0)) rfl rfl infoC rfl (oneC zC rfl) ?_
                     intro W8 hB8 hO8 hK8
                     have HB8 := Lib.hid hB8; have HK8 := Lib.hid (hK8 _ _ HR2.out.kp (.inr hl2))
                     clear hB8 hO8 hK8))
                refine ret_row3 (by rfl) HB8.out _ Tryd.underlying25 rfl infoC (by rfl) ?_
                refine ⟨.slice none 0 0, ?_, ?_, ?_, HK8.out⟩
                · rw [HBAD.out]; rfl
                · rw [HBAD.out]; exact Sl.nil _ _
                · rw [HBAD.out]; exact zC_ok
    · have hke : k = N := by omega
      subst hke
      have htk : (parts 10 (bl s)).take k = parts 10 (bl s) := by rw [← HN.out, List.take_length]
      have hg := hr.out.good
      rw [htk] at hg
      have hdone := readC_done hg
      obtain ⟨c, hc⟩ : ∃ c, st.c = c := ⟨_, rfl⟩
      have hcf := hr.out.cfg
      have hsl := own_sl hr.out.fl
      have hok := hr.out.ok
      have hv1 : v.oneCell' = true := by obtain ⟨ao, cap, rfl⟩ := own_shape hr.out.fl; rfl
      rw [hc] at hdone hsl hok hcf
      have HCF := Lib.hid hcf
      have HSL := Lib.hid hsl
      have HB3 := Lib.hid hr.out.res
      have HK3 := Lib.hid hr.out.kp
      have HFW := Lib.hid hr.out.fl
      have HCH := Lib.hid (fun W hs => rChk c hok v W hs)
      have HOK := Lib.hid hok
      obtain ⟨E, hE⟩ : ∃ E, chk c = E := ⟨_, rfl⟩
      rw [hE] at hdone HCH
      have HD := Lib.hid hdone
      have HV1 := Lib.hid hv1
      clear hg htk hdone hsl hE hv1 hok hcf hc
      go_wp2_with (first
        | (refine wp_get_row rfl 25 (.tmp 5) rfl HCF.out _ rfl Tryd.underlying25 rfl infoC ?_))
      refine (HCH.out _ HSL.out).mono ?_
      rintro e w2 ⟨rfl, k2⟩
      have HR2 := Lib.hid (HCF.out.kp k2 (fun x => x))
      have HB2 := Lib.hid (HB3.out.kp k2 (fun x => x))
      have HK2 := Lib.hid (HK3.out.trans k2)
      have HSL2 := Lib.hid (HSL.out.old k2)
      have HFW2 := Lib.hid (own_kp (S := none') HFW.out k2 (fun _ _ x => x))
      clear k2
      by_cases hE0 : E = 0
      · subst hE0
        go_wp2_with (first
          | (refine wp_get_row rfl 25 (.tmp 5) rfl HR2.out _ rfl Tryd.underlying25 rfl infoC ?_)
          | (refine wp_set_row rfl 25 (.tmp 2) (.tmp 121) rfl HB2.out (enC c v) rfl rfl infoC rfl (oneC c HV1.out) ?_
             intro W8 hB8 hO8 hK8
             have HB8 := Lib.hid hB8; have HK8 := Lib.hid (hK8 _ _ HK2.out (.inr hl2)); have HZ8 := Lib.hid (hK8 _ _ (Kp.refl (fun b => b = b2) w2) (.inl rfl))
             clear hB8 hO8 hK8))
        refine ret_row3 (by rfl) HB8.out _ Tryd.underlying25 rfl infoC (by rfl) ?_
        have hd := HD.out
        rw [if_neg (by simp)] at hd
        refine ⟨v, ?_, ?_, ?_, HK8.out⟩
        · rw [hd]; rfl
        · rw [hd]
          exact HSL2.out.kp HZ8.out (fun b hb hvb e => own_ne_blk HFW2.out HB2.out (by decide) (by rw [hvb]; exact congrArg some e))
        · rw [hd]; exact HOK.out
      · have hb : (E != 0) = true := by simpa using hE0
        have HE0 := Lib.hid hE0
        clear hE0
        go_wp2_with (first
          | (refine wp_set_row rfl 25 (.tmp 2) (.tmp 119) rfl HB2.out (enC zC (.slice none 0 0)) rfl rfl infoC rfl (oneC zC rfl) ?_
             intro W8 hB8 hO8 hK8
             have HB8 := Lib.hid hB8; have HK8 := Lib.hid (hK8 _ _ HK2.out (.inr hl2))
             clear hB8 hO8 hK8))
        refine ret_row3 (by rfl) HB8.out _ Tryd.underlying25 rfl infoC (by rfl) ?_
        have hd := HD.out
        rw [if_pos HE0.out] at hd
        refine ⟨.slice none 0 0, ?_, ?_, ?_, HK8.out⟩
        · rw [hd]; rfl
        · rw [hd]; exact Sl.nil _ _
        · rw [hd]; exact zC_ok
end Go.Proofs.YtkkgpaabbgdfmaaDoor
