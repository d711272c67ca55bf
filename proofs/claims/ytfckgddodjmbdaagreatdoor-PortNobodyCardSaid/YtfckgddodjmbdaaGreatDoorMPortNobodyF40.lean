/- Walks of layer 33: two bytes changed, with the sum; a hop, a mark. -/
import Derived.Test.YtfckgddodjmbdaaGreatDoorMPortNobodyF39
import Derived.Deep.Cut
import Derived.Test.YtfckgddodjmbdaaGreatDoorMPortNobodyF31
import Derived.Test.YtfckgddodjmbdaaGreatDoorMPortNobodyF37
import Derived.Maps.OwnOps
import Derived.Maps.OwnSet
import Derived.Maps.Views
import Derived.Maps.StringElems
namespace Go.Proofs.YtfckgddodjmbdaaGreatDoor
set_option linter.unusedVariables false
set_option linter.unusedSimpArgs false
open Go Go.RowKit Go.Shelf

theorem ex_size (s : ByteArray) (a b : Nat) : (s.extract a b).size = min b s.size - a := by rw [← bl_len, bl_cut, List.length_take, List.length_drop, bl_len]; omega
theorem cut_str (s : ByteArray) (k x : Nat) : bl (s.extract 0 k ++ tx (hvL [x]) ++ s.extract (k + 2) s.size) = cutAt (bl s) k x := by
  rw [bl_app, bl_app, bl_cut, bl_cut, bl_tx]
  unfold cutAt
  rw [List.drop_zero, List.append_assoc, List.take_of_length_le (l := List.drop (k + 2) (bl s)) (by rw [List.length_drop, bl_len]; omega)]
  simp [hvL]
theorem one16 (w : World) (x : Nat) : Sl (w.alloc (.cells #[.int .u16 (x : Int)] 54)) (.slice (some ⟨w.heap.size, 0, none⟩) 1 1) [x].length 1 (u16c [x]) :=
  ⟨rfl, by show (1 : Nat) ≤ _; omega, _, _, rfl, fun i u hu => ⟨_, 0, rfl, by rw [Nat.zero_add]; exact (Blk.new w (u16c [x]) 54).cell i hu⟩⟩
set_option maxRecDepth 100000 in
set_option maxHeartbeats 400000 in
theorem hWith (s : ByteArray) (k x : Nat) (hs : s.size ≤ 100000) (h28 : 28 ≤ s.size) (hk : k + 2 ≤ 28) (hx : x < 65536) (w : World) : Calls Tryz.prog 42 #[.string s, .int .i64 k, .int .u16 x] w fun e w' => e = .returned (.string (tx (withL (bl s) k x))) ∧ Kp none' w w' := by
  have HH10 : Hid (∀ W, Calls Tryz.prog 37 #[.string s, .int .i64 10] W fun e w' => e = .returned (.int .u16 (hf (bl s) 10 : Nat)) ∧ Kp none' W w') := Lib.hid (fun W => hHalf s 10 (by omega) (by omega) W)
  have HHK := Lib.hid (fun W => hHalf s k (by omega) (by omega) W)
  have HU := Lib.hid (fun W => calls_same (hUpd (hf (bl s) 10) (hf (bl s) k) x (hf_lt _ _) (hf_lt _ _) hx W))
  have htop0 : updN (hf (bl s) 10) (hf (bl s) k) x < 65536 := by unfold updN; omega
  have hcs := cut_str s k x
  have hz1 : (s.extract 0 k).size = k := by rw [ex_size]; omega
  have hz2 : (tx (hvL [x])).size = 2 := by rw [tx_size, hv_len]; rfl
  have hz3 : (s.extract (k + 2) s.size).size = s.size - (k + 2) := by rw [ex_size]; omega
  have x1 := cat_run (P := Tryz.prog) (s.extract 0 k) (tx (hvL [x])) (by omega)
  have hz4 : (s.extract 0 k ++ tx (hvL [x])).size = k + 2 := by rw [← bl_len, bl_app, List.length_append, bl_len, bl_len]; omega
  have x2 := cat_run (P := Tryz.prog) (s.extract 0 k ++ tx (hvL [x])) (s.extract (k + 2) s.size) (by omega)
  obtain ⟨T, hT⟩ : ∃ T, s.extract 0 k ++ tx (hvL [x]) ++ s.extract (k + 2) s.size = T := ⟨_, rfl⟩
  rw [hT] at hcs x2
  have hTs : T.size = s.size := by rw [← hT, ← bl_len, bl_app, List.length_append, bl_len, bl_len]; omega
  have htop := htop0
  obtain ⟨y, hy⟩ : ∃ y, updN (hf (bl s) 10) (hf (bl s) k) x = y := ⟨_, rfl⟩
  rw [hy] at htop
  have hcs2 := cut_str T 10 y
  rw [hcs, ← hy] at hcs2
  have hy1 : (T.extract 0 10).size = 10 := by rw [ex_size]; omega
  have hy2 : (tx (hvL [y])).size = 2 := by rw [tx_size, hv_len]; rfl
  have hy3 : (T.extract 12 T.size).size = T.size - 12 := by rw [ex_size]; omega
  have y1 := cat_run (P := Tryz.prog) (T.extract 0 10) (tx (hvL [y])) (by omega)
  have hy4 : (T.extract 0 10 ++ tx (hvL [y])).size = 12 := by rw [← bl_len, bl_app, List.length_append, bl_len, bl_len]; omega
  have y2 := cat_run (P := Tryz.prog) (T.extract 0 10 ++ tx (hvL [y])) (T.extract 12 T.size) (by omega)
  have HX : Hid (∀ W v, Sl W v 1 1 (u16c [x]) → Calls Tryz.prog 59 #[v] W fun e w' => e = .returned (.string (tx (hvL [x]))) ∧ Kp none' W w') := Lib.hid (fun W v h => hHalves [x] (fun n hn => by simp at hn; omega) (Nat.zero_lt_one) (by show 1 ≤ _; omega) v W h)
  have HY : Hid (∀ W v, Sl W v 1 1 (u16c [y]) → Calls Tryz.prog 59 #[v] W fun e w' => e = .returned (.string (tx (hvL [y]))) ∧ Kp none' W w') := Lib.hid (fun W v h => hHalves [y] (fun n hn => by simp at hn; omega) (Nat.zero_lt_one) (by show 1 ≤ _; omega) v W h)
  rw [hy] at HU
  have HRES : Hid (tx (withL (bl s) k x) = T.extract 0 10 ++ tx (hvL [y]) ++ T.extract 12 T.size) := by
    show _ = _
    apply str_ext
    have := hcs2
    rw [hy] at this
    rw [bl_tx]
    unfold withL
    rw [hy]
    exact this.symm
  rw [HRES.out]
  have b2 : (k : Int) + 2 ≤ s.size := by omega
  have b3 : (k : Int) ≤ s.size := by omega
  have b4 : IntKind.i64.wrap ((k : Int) + 2) = (k : Int) + 2 := IntWalk.i64_in _ (by omega)
  have b5 : ((k : Int) + 2).toNat = k + 2 := by omega
  have b10 : (10 : Int) ≤ T.size := by omega
  have b12 : (12 : Int) ≤ T.size := by omega
  clear HRES hcs2 hcs hT hTs hz1 hz2 hz3 hz4 hy1 hy2 hy3 hy4 hy
  go_enter Tryz.func42, Tryz.ntmps42
  go_wp2_with fail
  refine (HH10.out _).mono ?_
  rintro e w1 ⟨rfl, hk1⟩
  have HK1 := Lib.hid hk1
  clear hk1
  go_wp2_with fail
  refine (HHK.out _).mono ?_
  rintro e w2 ⟨rfl, hk2⟩
  have HK2 := Lib.hid (HK1.out.trans hk2)
  clear hk2 HK1
  go_wp2_with fail
  refine (HU.out _).mono ?_
  rintro e w3 ⟨rfl, hk3⟩
  have HK3 := Lib.hid (HK2.out.trans hk3)
  clear hk3 HK2
  go_wp2_with fail
  go_cut [0] from 15 (fun s0 wc => s0 = .string T ∧ Hid (Kp none' w wc))
  case first =>
    go_region_with (go_at_call 59; refine (HX.out _ _ (by first | exact one16 _ x | exact (one16 _ x).old (Kp.drew (Kp.refl _ _)))).mono ?_; rintro e w4 ⟨rfl, hk4⟩; have HK4 := Lib.hid (((HK3.out.alloc (.cells #[.int .u16 (x : Int)] 54)).drew).trans hk4); clear hk4)
    all_goals
      go_wp2_with fail
      go_meet
      case rel => exact ⟨rfl, HK4⟩
  case rest =>
    obtain ⟨rfl, HK5⟩ := hcut
    clear HK3
    go_wp2_with fail
    go_region_with (go_at_call 59; refine (HY.out _ _ (by first | exact one16 _ y | exact (one16 _ y).old (Kp.drew (Kp.refl _ _)))).mono ?_; rintro e w4 ⟨rfl, hk4⟩; have HK4 := Lib.hid (((HK5.out.alloc (.cells #[.int .u16 (y : Int)] 54)).drew).trans hk4); clear hk4)
    all_goals
      go_wp2
      go_ret
      exact ⟨rfl, HK4.out⟩
end Go.Proofs.YtfckgddodjmbdaaGreatDoor

namespace Go.Proofs.YtfckgddodjmbdaaGreatDoor
set_option linter.unusedVariables false
set_option linter.unusedSimpArgs false
open Go Go.RowKit Go.Shelf

theorem hop_ok {l : List UInt8} (h : hopE l = 0) : takeE l = 0 ∧ 2 ≤ (l.getD 8 0).toNat := by
  unfold hopE at h
  split at h
  · rename_i h1; exact absurd h h1
  · rename_i h1
    have h1 : takeE l = 0 := Decidable.of_not_not h1
    split at h
    · cases h
    · exact ⟨h1, by omega⟩
set_option maxRecDepth 100000 in
set_option maxHeartbeats 1000000 in
theorem hHopOk (s : ByteArray) (hs : s.size ≤ 100000) (he : hopE (bl s) = 0) (w : World) : Calls Tryz.prog 20 #[.string s] w fun e w' => e = .returned (.tuple #[.string (tx (hopL (bl s))), .int .i64 0]) ∧ Kp none' w w' := by
  obtain ⟨h0, h2⟩ := hop_ok he
  have h28 : 28 ≤ s.size := by have := (take_parts h0).1; rwa [bl_len] at this
  have h8 : (bl s).getD 8 0 = s[8] := gd s 8 (by omega)
  rw [h8] at h2
  have HT := Lib.hid (fun W => hTakeOk s hs h0 W)
  have ht8 : (takeH (bl s)).ttl = s[8].toNat := by unfold takeH; rw [h8]
  have hge : 512 ≤ hf (bl s) 8 := by unfold hf; rw [gd s 8 (by omega)]; omega
  have hlt := hf_lt (bl s) 8
  have HH : Hid (∀ W, Calls Tryz.prog 37 #[.string s, .int .i64 8] W fun e w' => e = .returned (.int .u16 (hf (bl s) 8 : Nat)) ∧ Kp none' W w') := Lib.hid (fun W => hHalf s 8 (by omega) (by omega) W)
  have hwi := fun W => hWith s 8 (hf (bl s) 8 - 256) hs h28 (by omega) (by omega) W
  rw [show ((hf (bl s) 8 - 256 : Nat) : Int) = ((hf (bl s) 8 : Nat) : Int) - 256 by omega] at hwi
  have HWI : Hid (∀ W, Calls Tryz.prog 42 #[.string s, .int .i64 8, .int .u16 (((hf (bl s) 8 : Nat) : Int) - 256)] W fun e w' => e = .returned (.string (tx (hopL (bl s)))) ∧ Kp none' W w') := Lib.hid hwi
  obtain ⟨T, hT⟩ : ∃ T, tx (hopL (bl s)) = T := ⟨_, rfl⟩
  rw [hT] at HWI ⊢
  obtain ⟨H, hH⟩ : ∃ H, takeH (bl s) = H := ⟨_, rfl⟩
  rw [hH] at HT ht8
  have hi2 : ¬ (H.ttl : Int) < 2 := by rw [ht8]; omega
  obtain ⟨n, hn⟩ : ∃ n, hf (bl s) 8 = n := ⟨_, rfl⟩
  rw [hn] at HH HWI hge hlt
  clear he h2 ht8 hH h8 h0 hwi hT hn
  go_enter Tryz.func20, Tryz.ntmps20
  go_wp2_with fail
  refine (HT.out _).mono ?_
  rintro e w1 ⟨rfl, hk1⟩
  have HK1 := Lib.hid (hk1.alloc (.cells (enHd H).toArray 56))
  clear hk1
  simp only [enHd] at *
  go_wp2_with fail
  refine (HH.out _).mono ?_
  rintro e w2 ⟨rfl, hk2⟩
  have HK2 := Lib.hid (HK1.out.trans hk2)
  clear hk2
  go_wp2_with fail
  refine (HWI.out _).mono ?_
  rintro e w3 ⟨rfl, hk3⟩
  have HK3 := Lib.hid (HK2.out.trans hk3)
  clear hk3
  go_wp2_with fail
  go_ret2
  exact ⟨rfl, HK3.out⟩
end Go.Proofs.YtfckgddodjmbdaaGreatDoor

namespace Go.Proofs.YtfckgddodjmbdaaGreatDoor
set_option linter.unusedVariables false
set_option linter.unusedSimpArgs false
open Go Go.RowKit Go.Shelf Go.Maps

theorem map_kp {S : Nat → Prop} {w w' : World} {P : Program} {k : TypeId} {R : Value → Option (DataW Unit × List MemPlace)} {b n : Nat} {D : DataW Unit} (h : w.ownsMap P k R b n D) (k' : Kp S w w') (hs : ¬ S b) : w'.ownsMap P k R b n D := by
  obtain ⟨es, clock, hb, F, hs', hD⟩ := h
  exact ⟨es, clock, (k'.block b (Array.getElem?_eq_some_iff.1 hb).1 hs).trans hb, F, hs', hD⟩
abbrev kU (x : Int) : Lit := .int .u32 x
/-- Where a port's things lie. -/
structure PoF where
  pb : Nat
  mb : Nat
  tb : Nat
  lo : Nat
  hi : Nat
  sf : ShF
/-- What a port may write. -/
def PoF.all (f : PoF) : Nat → Prop := fun b => b = f.pb ∨ b = f.mb ∨ f.sf.all b
def poC (p : Po) (f : PoF) : List Value := [.pointer (some ⟨f.sf.sb, 0, none⟩), .pointer (some ⟨f.tb, 0, none⟩), .int .u64 p.m.rate, .int .u64 p.m.near, .int .u64 p.m.far, .int .u64 p.m.a, .int .u64 p.m.b, .int .u8 p.y, .map (some f.mb), .int .u32 p.num]
structure Po.Ok (p : Po) : Prop where
  okr : ∀ r ∈ p.rl, r.Ok
  chk : chkN p.rl = 0
  mok : p.m.Ok
  y : p.y ≤ 63
  num : p.num < 4294967296
  wl : ∀ b, (p.wt b).length ≤ 100000
structure WtM (w : World) (mb num : Nat) (wt : Nat → List UInt8) : Prop where
  is : ∃ n D, w.ownsMap Tryz.prog 24 (plainElem (H := Unit) Tryz.prog 9) mb n D ∧ n ≤ num ∧ ∀ b : Nat, b < 4294967296 → D.atKey (kU b) (.lit (.string [])) = .lit (.string (wt b))
theorem WtM.kp {T : Nat → Prop} {w w' : World} {mb num : Nat} {wt : Nat → List UInt8} (h : WtM w mb num wt) (k : Kp T w w') (hT : ¬ T mb) : WtM w' mb num wt := by
  obtain ⟨n, D, h1, h2⟩ := h.is
  exact ⟨n, D, map_kp h1 k hT, h2⟩
theorem WtM.lt {w : World} {mb num : Nat} {wt : Nat → List UInt8} (h : WtM w mb num wt) : mb < w.heap.size := by
  obtain ⟨n, D, h1, _⟩ := h.is
  exact h1.lt
theorem kU_wf {x : Nat} (h : x < 4294967296) : (Lit.int .u32 (x : Int)).wf = true := by simp [Lit.wf, IntKind.min, IntKind.max, IntKind.signed, IntKind.bits]; omega
theorem kU_key (x : Nat) (h : x < 4294967296) : keyOf Tryz.prog 24 (.int .u32 (x : Int)) = some (kU x) := keyOf_int_mk Tryz.underlying24 (kU_wf h)
theorem kU_lit (x : Int) : WideAt.IsKeyLit (kU x) := by simp [WideAt.IsKeyLit, kU]
theorem str_elem (x : ByteArray) (h : x.size ≤ 1000000) : plainElem (H := Unit) Tryz.prog 9 (.string x) = some (.lit (.string (bl x)), []) := plainElem_string Tryz.underlying9 (by unfold maxLen; omega)
theorem WtM.look {w : World} {mb num : Nat} {wt : Nat → List UInt8} (h : WtM w mb num wt) (id : Nat) (hid : id < 4294967296) :
    ∀ W, Kp none' w W → (Instr.lookup 51 (.map (some mb)) (.int .u32 (id : Int)) false).run Tryz.prog W = .ok (.string (tx (wt id))) W := fun W k => by
  obtain ⟨n, D, h1, _, h3⟩ := h.is
  obtain ⟨v, ps, hrun, hv⟩ := (map_kp h1 k (fun x => x)).lookup (int_keyed Tryz.underlying24) Tryz.underlying51 (Tryz.zeroValue9 W) (str_elem ⟨#[]⟩ (by decide)) (kU_key id hid)
  obtain ⟨s, rfl, hs, _⟩ := plainElem_string_inv Tryz.underlying9 hv
  have h4 := h3 id hid
  have e0 : bl (⟨#[]⟩ : ByteArray) = [] := rfl
  rw [e0, h4] at hs
  have h5 : wt id = s.data.toList := by
    have := congrArg Prod.fst hs
    simpa using this
  rw [hrun, h5]
  exact congrArg (fun x => Result.ok (Value.string x) W) (tx_bl s).symm
theorem WtM.put {w w' : World} {mb num n : Nat} {wt : Nat → List UInt8} {D : DataW Unit} (hown : w.ownsMap Tryz.prog 24 (plainElem (H := Unit) Tryz.prog 9) mb n D) (hat : ∀ b : Nat, b < 4294967296 → D.atKey (kU b) (.lit (.string [])) = .lit (.string (wt b))) (hn : n ≤ num) (id : Nat) (x : List UInt8)
    (h : w'.ownsMap Tryz.prog 24 (plainElem (H := Unit) Tryz.prog 9) mb (n + 1) (D.put (kU id) (.lit (.string x)))) : WtM w' mb (num + 1) (fun k => if k = id then x else wt k) := by
  refine ⟨n + 1, _, h, by omega, fun b hb => ?_⟩
  by_cases e : b = id
  · subst e
    rw [if_pos rfl]
    exact atKey_put_same hown.isMap (kU_lit _) _ _
  · rw [if_neg e, atKey_put_other (fun hc => e (by simp [kU] at hc; omega)), hat b hb]
theorem WtM.del {w w' : World} {mb num n : Nat} {wt : Nat → List UInt8} {D : DataW Unit} (hat : ∀ b : Nat, b < 4294967296 → D.atKey (kU b) (.lit (.string [])) = .lit (.string (wt b))) (hn : n ≤ num) (id : Nat)
    (h : w'.ownsMap Tryz.prog 24 (plainElem (H := Unit) Tryz.prog 9) mb n (D.del (kU id))) : WtM w' mb num (fun k => if k = id then [] else wt k) := by
  refine ⟨n, _, h, hn, fun b hb => ?_⟩
  by_cases e : b = id
  · subst e
    rw [if_pos rfl]
    exact atKey_del_same _
  · rw [if_neg e, atKey_del_other (fun hc => e (by simp [kU] at hc; omega)), hat b hb]
structure PoM (w : World) (f : PoF) (p : Po) : Prop where
  top : Blk w f.pb (poC p f) 53
  sh : ShM w f.sf p.s
  ru : RtB w f.lo f.hi f.tb p.rl
  mp : WtM w f.mb p.num p.wt
  n1 : f.pb ≠ f.mb
  n2 : ¬ f.sf.all f.pb
  n3 : ¬ f.sf.all f.mb
  n4 : ¬ (f.lo ≤ f.pb ∧ f.pb < f.hi)
  n5 : ¬ (f.lo ≤ f.mb ∧ f.mb < f.hi)
  n6 : ∀ b, f.sf.all b → ¬ (f.lo ≤ b ∧ b < f.hi)
  hi : f.hi ≤ w.heap.size
  ok : p.Ok
theorem PoM.kp {T : Nat → Prop} {w w' : World} {f : PoF} {p : Po} (h : PoM w f p) (k : Kp T w w') (hT : ∀ b, f.all b → ¬ T b) (hR : ∀ b, f.lo ≤ b → b < f.hi → ¬ T b) : PoM w' f p :=
  { h with top := h.top.kp k (hT _ (.inl rfl)), sh := h.sh.kp k (fun b hb => hT b (.inr (.inr hb))), ru := h.ru.kp k hR, mp := h.mp.kp k (hT _ (.inr (.inl rfl))), hi := Nat.le_trans h.hi k.size }
theorem PoM.old {w w' : World} {f : PoF} {p : Po} (h : PoM w f p) (k : Kp none' w w') : PoM w' f p := h.kp k (fun _ _ x => x) (fun _ _ _ x => x)
theorem PoM.lt {w : World} {f : PoF} {p : Po} (h : PoM w f p) {b : Nat} (hb : f.all b) : b < w.heap.size := by
  rcases hb with rfl | rfl | hb
  · exact h.top.lt
  · exact h.mp.lt
  · exact h.sh.lt hb
/-- Behind a call on a port. -/
abbrev PoTo (w : World) (f : PoF) (p' : Po) (w' : World) : Prop := ∃ f', PoM w' f' p' ∧ Kp f.all w w' ∧ Nw w f.all f'.all ∧ f'.pb = f.pb ∧ f'.lo = f.lo ∧ f'.hi = f.hi
/-- The meter tells a colour. -/
def ColOk (p : Po) (n : Nat) : Prop := ∀ (w : World) (f : PoF), Blk w f.pb (poC p f) 53 → Calls Tryz.prog 21 #[.pointer (some ⟨f.pb, 0, none⟩), .int .u64 n] w fun e w' => e = .returned (.int .i64 (colP p.m n).2) ∧ Blk w' f.pb (poC { p with m := (colP p.m n).1 } f) 53 ∧ Kp (fun b => b = f.pb) w w'
end Go.Proofs.YtfckgddodjmbdaaGreatDoor

namespace Go.Proofs.YtfckgddodjmbdaaGreatDoor
set_option linter.unusedVariables false
set_option linter.unusedSimpArgs false
open Go Go.RowKit Go.Shelf Go.Maps

theorem takeH_fit (l : List UInt8) : (takeH l).Ok := ⟨wd_lt _ _, wd_lt _ _, hf_lt _ _⟩
end Go.Proofs.YtfckgddodjmbdaaGreatDoor

namespace Go.Proofs.YtfckgddodjmbdaaGreatDoor
set_option linter.unusedVariables false
set_option linter.unusedSimpArgs false
open Go Go.RowKit Go.Shelf Go.Maps

theorem PoM.col {w w' : World} {f : PoF} {p : Po} (h : PoM w f p) {m : Mt} (hb : Blk w' f.pb (poC { p with m := m } f) 53) (k : Kp (fun b => b = f.pb) w w') (hm : m.Ok) : PoM w' f { p with m := m } :=
  { h with top := hb, sh := h.sh.kp k (fun b hb e => h.n2 (e ▸ hb)), ru := h.ru.kp k (fun b h1 h2 e => h.n4 (e ▸ ⟨h1, h2⟩)), mp := h.mp.kp k (fun e => h.n1 e.symm), hi := Nat.le_trans h.hi k.size, ok := { h.ok with mok := hm } }
theorem PoM.shTo {w w' : World} {f : PoF} {p : Po} (h : PoM w f p) {s' : Sh} (ht : ShTo w f.sf s' w') : ∃ f', PoM w' { f with sf := f' } { p with s := s' } ∧ Kp f.all w w' ∧ Nw w f.all ({ f with sf := f' } : PoF).all ∧ f'.sb = f.sf.sb := by
  obtain ⟨f', hm, hk, hn, hs⟩ := ht
  have hnp : ¬ f'.all f.pb := fun e => by rcases hn _ e with e | e; exact h.n2 e; (have := h.top.lt; omega)
  have hnm : ¬ f'.all f.mb := fun e => by rcases hn _ e with e | e; exact h.n3 e; (have := h.mp.lt; omega)
  refine ⟨f', { h with top := ?_, sh := hm, ru := h.ru.kp hk (fun b h1 h2 e => h.n6 b e ⟨h1, h2⟩), mp := h.mp.kp hk h.n3, n2 := hnp, n3 := hnm, n6 := ?_, hi := Nat.le_trans h.hi hk.size, ok := { h.ok with } }, hk.mono (fun b _ hb => .inr (.inr hb)), ?_, hs⟩
  · have := h.top.kp hk h.n2
    show Blk w' f.pb (poC { p with s := s' } { f with sf := f' }) _
    have e : poC { p with s := s' } { f with sf := f' } = poC p f := by simp only [poC, hs]
    rw [e]; exact this
  · intro b hb
    rintro ⟨h1, h2⟩
    rcases hn _ hb with e | e
    · exact h.n6 b e ⟨h1, h2⟩
    · have := h.hi; have h3 : b < f.hi := h2; omega
  · intro b hb
    rcases hb with hb | hb | hb
    · exact .inl (.inl hb)
    · exact .inl (.inr (.inl hb))
    · rcases hn _ hb with e | e
      · exact .inl (.inr (.inr e))
      · exact .inr e
theorem PoM.wait {w w' : World} {f : PoF} {p : Po} (h : PoM w f p) {num : Nat} {wt : Nat → List UInt8} (hb : Blk w' f.pb (poC { p with num := num, wt := wt } f) 53) (hm : WtM w' f.mb num wt) (k : Kp (fun b => b = f.pb ∨ b = f.mb) w w') (hn : num < 4294967296) (hl : ∀ b, (wt b).length ≤ 100000) :
    PoM w' f { p with num := num, wt := wt } :=
  { h with top := hb, sh := h.sh.kp k (fun b hb e => by rcases e with e | e; exact h.n2 (e ▸ hb); exact h.n3 (e ▸ hb)), ru := h.ru.kp k (fun b h1 h2 e => by rcases e with e | e; exact h.n4 (e ▸ ⟨h1, h2⟩); exact h.n5 (e ▸ ⟨h1, h2⟩)), mp := hm, hi := Nat.le_trans h.hi k.size, ok := { h.ok with num := hn, wl := hl } }
theorem PoTo.trans {w w1 w2 : World} {f f1 : PoF} {p2 : Po} (k : Kp f.all w w1) (n : Nw w f.all f1.all) (e : f1.pb = f.pb ∧ f1.lo = f.lo ∧ f1.hi = f.hi) (h : PoTo w1 f1 p2 w2) : PoTo w f p2 w2 := by
  obtain ⟨f2, h1, h2, h3, h4, h5, h6⟩ := h
  exact ⟨f2, h1, k.steps n h2, n.trans h3 k.size, h4.trans e.1, h5.trans e.2.1, h6.trans e.2.2⟩
theorem hop_len {l : List UInt8} (h : takeE l = 0) : (hopL l).length = l.length := by
  have h28 := (take_parts h).1
  unfold hopL withL
  rw [cutAt_len (by rw [cutAt_len (by omega)]; omega), cutAt_len (by omega)]
theorem colP_ok {m : Mt} (h : m.Ok) (n : Nat) : (colP m n).1.Ok := by
  unfold colP
  split
  · exact h
  · rename_i hr
    have h1 := colMt_ok h.lt (h.chk (by omega)) n
    exact ⟨h1.1, fun _ => h1.2⟩
set_option maxRecDepth 100000 in
theorem pCol0 (p : Po) (n : Nat) (hr : p.m.rate = 0) : ColOk p n := fun w f hb => by
  have e : colP p.m n = (p.m, 1) := by unfold colP; rw [if_pos hr]
  have hb' : Blk w f.pb (poC { p with m := p.m } f) 53 := hb
  have HB := Lib.hid hb'
  have c2 := hb.cell 2 rfl
  rw [e]
  simp only
  have hr0 : (p.m.rate : Int) = 0 := by omega
  obtain ⟨pb, hpb⟩ : ∃ pb, f.pb = pb := ⟨_, rfl⟩
  rw [hpb] at c2 HB ⊢
  clear hb hb' e hpb
  go_enter Tryz.func21, Tryz.ntmps21
  go_wp2
  go_ret
  exact ⟨rfl, HB.out, Kp.refl _ _⟩
end Go.Proofs.YtfckgddodjmbdaaGreatDoor

namespace Go.Proofs.YtfckgddodjmbdaaGreatDoor
set_option linter.unusedVariables false
set_option linter.unusedSimpArgs false
open Go Go.RowKit Go.Shelf Go.Maps

theorem flowN_lt {l : List RuN} (h : ∀ r ∈ l, r.Ok) {x : HdN} {fl : Nat} (hf : flowN l x = some fl) : fl < 4294967296 := by
  unfold flowN at hf
  cases hq : l.find? (fun r => holdsR r x) with
  | none => rw [hq] at hf; cases hf
  | some r =>
    rw [hq] at hf
    simp only [Option.map_some, Option.some.injEq] at hf
    rw [← hf]
    exact (h r (List.mem_of_find?_eq_some hq)).fl
theorem op_enq_ok {fl id n : Nat} (h1 : fl < 4294967296) (h2 : id < 4294967296) (h3 : n < 18446744073709551616) : (⟨1, fl, id, n, 0⟩ : OpR).ok :=
  ⟨⟨by show (-9223372036854775808 : Int) ≤ 1; decide, by show (1 : Int) ≤ 9223372036854775807; decide⟩, h1, h2, h3, by show 0 < 18446744073709551616; decide⟩
theorem enq_code (s : Sh) (fl id ln : Nat) : (enqS s fl id ln).1[1]? = some (.int .i64 (mayG s.g fl ln)) := by
  unfold enqS
  split
  · rename_i h; rw [h]; rfl
  · rfl
def z42 : List Value := rpC 0 0 0 0 0 0 zSt
set_option maxRecDepth 100000 in
set_option maxHeartbeats 2000000 in
theorem pArrGYes {w : World} {f : PoF} {p : Po} (h : PoM w f p) (hT : Tab w) (s : ByteArray) (hs : s.size ≤ 100000) (he : takeE (bl s) = 0) (fl : Nat) (hf : flowN p.rl (takeH (bl s)).n = some fl) (ho : hopE (bl s) = 0) (hcol : ColOk p s.size) (hc : (colP p.m s.size).2 = 1) (hn : bkN p.s.bk < 9223372036854775807) (hnum : p.num + 1 < 4294967296) (hmay : mayG p.s.g fl s.size = 0) :
    Calls Tryz.prog 5 #[.pointer (some ⟨f.pb, 0, none⟩), .string s] w fun e w' => e = .returned (.tuple #[.int .u32 ((p.num : Int) + 1), .int .i64 0]) ∧ PoTo w f { p with m := (colP p.m s.size).1, s := (enqS p.s fl (p.num + 1) s.size).2, num := p.num + 1, wt := fun k => if k = p.num + 1 then hopL (bl s) else p.wt k } w' := by
  have hfl2 := flowN_lt h.ok.okr hf
  have HT := Lib.hid (fun W => hTakeOk s hs he W)
  have HO := Lib.hid (fun W => hHopOk s hs ho W)
  have hlen : (hopL (bl s)).length = s.size := by rw [hop_len he, bl_len]
  have hfl := fun W (k : Kp none' w W) => tFlow W f.tb p.rl h.ok.okr h.ok.chk ((h.old k).ru.rt) (hT.kp k (fun x => x)) (takeH (bl s)) (takeH_fit _)
  rw [hf] at hfl
  have HF := Lib.hid hfl
  have HCL := Lib.hid (fun W (k : Kp none' w W) => hcol W f (h.old k).top)
  rw [hc] at HCL
  have hmo := colP_ok h.ok.mok s.size
  obtain ⟨m', hm'⟩ : ∃ m', (colP p.m s.size).1 = m' := ⟨_, rfl⟩
  rw [hm'] at HCL hmo ⊢
  have hy := h.ok.y
  obtain ⟨L, hL⟩ : ∃ L, hopL (bl s) = L := ⟨_, rfl⟩
  rw [hL] at HO hlen ⊢
  have hLl : L.length ≤ 100000 := by omega
  clear hL
  have HD := Lib.hid (fun W (k : ShM W f.sf p.s) => shDo ⟨1, fl, p.num + 1, s.size, 0⟩ k (op_enq_ok hfl2 hnum (by omega)) hn)
  have hvs : ∃ vs, (enqS p.s fl (p.num + 1) s.size).1 = vs ∧ vs[1]? = some (.int .i64 (mayG p.s.g fl s.size)) ∧ Rp42 vs := ⟨_, rfl, enq_code _ _ _ _, enq42 _ _ _ _⟩
  obtain ⟨vs, hvs, hv1, h42, h1c⟩ := hvs
  have hdo : doS p.s ⟨1, fl, p.num + 1, s.size, 0⟩ = enqS p.s fl (p.num + 1) s.size := by unfold doS; rw [if_pos rfl]
  rw [hdo, hvs] at HD
  obtain ⟨s', hs'⟩ : ∃ s', (enqS p.s fl (p.num + 1) s.size).2 = s' := ⟨_, rfl⟩
  rw [hs'] at HD ⊢
  obtain ⟨cd, hcd⟩ : ∃ cd, mayG p.s.g fl s.size = cd := ⟨_, rfl⟩
  rw [hcd] at hmay hv1
  have HM := Lib.hid h
  have HB := Lib.hid h.top
  obtain ⟨pb, hpb⟩ : ∃ pb, f.pb = pb := ⟨_, rfl⟩
  rw [hpb] at HB HCL ⊢
  have HPB := Lib.hid hpb
  obtain ⟨H, hH⟩ : ∃ H, takeH (bl s) = H := ⟨_, rfl⟩
  rw [hH] at HT HF
  have c0 := HB.out.cell 0 rfl
  simp only [enHd, enO, atN, isN] at HT HF HD
  rw [show ((p.num + 1 : Nat) : Int) = (p.num : Int) + 1 by omega] at HD
  obtain ⟨ds, id, ttl, sr, d, sp, dp⟩ := H
  simp only at HT HF
  refine calls_post ?_
  intro PP HP
  clear h he hpb hH hT hf hfl ho hcol hc hm' hvs hdo hs' hcd
  go_enter Tryz.func5, Tryz.ntmps5
  go_wp2_with fail
  refine (HT.out _).mono ?_
  rintro e w1 ⟨rfl, hk1⟩
  have HH1 := Lib.hid (Blk.new w1 [.int .u8 ds, .int .u16 id, .int .u8 ttl, .int .u32 sr, .int .u32 d, .int .u16 sp, .int .u16 dp] 56)
  have HK1 := Lib.hid (hk1.alloc (.cells #[.int .u8 ds, .int .u16 id, .int .u8 ttl, .int .u32 sr, .int .u32 d, .int .u16 sp, .int .u16 dp] 56))
  have d1 := (HB.out.kp HK1.out (fun x => x)).cell 1 rfl
  clear hk1 c0
  go_upto_region 6 with fail
  refine wp_region_kept2 [] [0, 1, 2, 3, 4, 5, 6, 7, 8, 9] 10 (by kernel_rfl) (by kernel_rfl) (fun c a d u w h => by cases d <;> exact h) ?_
  simp only [pick, List.getElem?_cons_succ, List.getElem?_cons_zero, List.drop_succ_cons, List.drop_zero]
  show wpKL _ _ _ _ _ _
  repeat (first
    | (refine wpKL_op (by exact rfl) (load_blk HH1.out _ Tryz.underlying56 rfl infoHd rfl rfl) ?_; simp only [Act.put, List.setIfInBounds_toArray, List.set_cons_succ, List.set_cons_zero])
    | (refine wpKL_op (by exact rfl) (by as_aux_lemma => intro W hK; have e1 := hK.cell d1 (fun x => x); go_simp; exact rfl) ?_; simp only [Act.put, List.setIfInBounds_toArray, List.set_cons_succ, List.set_cons_zero])
    | (refine wpKL_off (by exact rfl) ?_; simp only [Act.put, List.setIfInBounds_toArray, List.set_cons_succ, List.set_cons_zero])
    | (refine wpKL_call (by exact rfl) (by as_aux_lemma => intro W; go_simp; exact ⟨rfl, rfl⟩) (by intro W hK; with_reducible first | exact HF.out W (HK1.out.trans hK)) ?_; simp only [Act.put, List.setIfInBounds_toArray, List.set_cons_succ, List.set_cons_zero]))
  show ∀ W, _ → wpList _ _ _ _ _ _
  intro W2 hK2
  have HK2 := Lib.hid (HK1.out.trans hK2)
  clear hK2 HH1 HK1 d1
  go_wp2_with fail
  refine (HO.out _).mono ?_
  rintro e w3 ⟨rfl, hk3⟩
  have HK3 := Lib.hid (HK2.out.trans hk3)
  clear hk3 HK2
  go_wp2_with fail
  refine (HCL.out _ HK3.out).mono ?_
  rintro e w4 ⟨rfl, hb4, hk4⟩
  have hm4 : PoM w4 f { p with m := m' } := (HM.out.old HK3.out).col (by rw [HPB.out]; exact hb4) (by rw [HPB.out]; exact hk4) hmo
  have HM4 := Lib.hid hm4
  have HK4 : Hid (Kp f.all w w4) := Lib.hid ((HK3.out.mono (fun _ _ x => x.elim)).trans (hk4.mono (fun b _ e => .inl (by rw [HPB.out]; exact e))))
  have c7 := hb4.cell 7 rfl
  have c9 := hb4.cell 9 rfl
  have c0 := hb4.cell 0 rfl
  clear hb4 hk4 hm4 hmo HM HK3 HCL HB
  go_wp2_with fail
  have HM5 := HM4
  have HK5 := HK4
  clear HM4 HK4 c7
  refine (HD.out _ HM5.out.sh).mono ?_
  rintro e w6 ⟨rfl, hto⟩
  obtain ⟨f', hm6, hk6, hn6, hsb⟩ := HM5.out.shTo hto
  have HM6 := Lib.hid hm6
  have HK6 := Lib.hid (HK5.out.trans hk6)
  have HN6 := Lib.hid (hn6.trans (Nw.refl w6 _) hk6.size)
  have hz6 : Blk (w6.alloc (.cells #[.int .i64 0, .int .i64 0, .int .u32 0, .int .u32 0, .int .u64 0, .int .u64 0, .int .u64 0, .int .u64 0, .int .i64 0, .int .u64 0, .int .u64 0, .int .u64 0, .int .u64 0, .int .u64 0, .int .u64 0, .int .u64 0, .int .u64 0, .int .u64 0, .int .u64 0, .int .u64 0, .int .u64 0, .int .u64 0, .int .u64 0, .int .u64 0, .int .u64 0, .int .u64 0, .int .u64 0, .int .u64 0, .int .u64 0, .int .u64 0, .int .u64 0, .int .u64 0, .int .u64 0, .int .u64 0, .int .u64 0, .int .u64 0, .int .u64 0, .int .u64 0, .int .u64 0, .int .u64 0, .int .u64 0, .int .u64 0] 67)) w6.heap.size z42 67 := Blk.new w6 z42 67
  have HZ6 := Lib.hid hz6
  have hws := HK5.out.size
  have HWS := Lib.hid hws
  clear hto hm6 hk6 hn6 hsb hz6 c0 c9 HD HM5 HK5 hws
  go_upto_region 22 with (first
    | (refine wp_st_blk rfl 67 (.tmp 14) (.tmp 84) rfl HZ6.out vs (by rw [h42]; rfl) rfl rfl (by rw [h42]; exact infoRp) h1c ?_
       intro W7 hb7 hk7
       have b1 := hb7.cell 1 hv1
       have hk67 : Kp none' w6 W7 := ((Kp.refl none' w6).alloc (.cells #[.int .i64 0, .int .i64 0, .int .u32 0, .int .u32 0, .int .u64 0, .int .u64 0, .int .u64 0, .int .u64 0, .int .i64 0, .int .u64 0, .int .u64 0, .int .u64 0, .int .u64 0, .int .u64 0, .int .u64 0, .int .u64 0, .int .u64 0, .int .u64 0, .int .u64 0, .int .u64 0, .int .u64 0, .int .u64 0, .int .u64 0, .int .u64 0, .int .u64 0, .int .u64 0, .int .u64 0, .int .u64 0, .int .u64 0, .int .u64 0, .int .u64 0, .int .u64 0, .int .u64 0, .int .u64 0, .int .u64 0, .int .u64 0, .int .u64 0, .int .u64 0, .int .u64 0, .int .u64 0, .int .u64 0, .int .u64 0] 67)).then hk7 (fun i h1 h2 => by omega)
       have HM7 := Lib.hid (HM6.out.old hk67)
       have HK7 := Lib.hid (HK6.out.trans (hk67.mono (fun _ _ x => x.elim)))
       have HK67 := Lib.hid hk67
       clear hb7 hk7 hk67 HM6 HK6 HZ6))
  have hb7 := HM7.out.top
  obtain ⟨nn, DD, hown, hnn, hat⟩ := HM7.out.mp.is
  have HOWN := Lib.hid hown
  have hpm : pb ≠ f.mb := by have := HM7.out.n1; rw [← HPB.out]; exact this
  have hpb7 : Blk W7 pb (poC { p with m := m', s := s' } { f with sf := f' }) 53 := by rw [← HPB.out]; exact hb7
  have a9 := hpb7.cell 9 rfl
  have z9 := hpb7.fz 9
  have HB7 := Lib.hid hpb7
  clear hb7 hown hpb7
  go_upto_region 23 with fail
  have hb8 : Blk (W7.setCell ⟨pb, 9, none⟩ (.int .u32 ((p.num : Int) + 1))) pb ((poC { p with m := m', s := s' } { f with sf := f' }).set 9 (.int .u32 ((p.num : Int) + 1))) 53 := HB7.out.set 9 _
  have hk8 := kp_at W7 pb 9 (.int .u32 ((p.num : Int) + 1))
  have ho8 := map_kp HOWN.out hk8 (fun e => hpm e.symm)
  obtain ⟨W8, hW8⟩ : ∃ W8, W7.setCell ⟨pb, 9, none⟩ (.int .u32 ((p.num : Int) + 1)) = W8 := ⟨_, rfl⟩
  rw [hW8] at hb8 hk8 ho8 ⊢
  have a8 := hb8.cell 8 rfl
  have HB8 := Lib.hid hb8
  have HK8 := Lib.hid hk8
  have HO8 := Lib.hid ho8
  have HKY : Hid (keyOf Tryz.prog 24 (.int .u32 ((p.num : Int) + 1)) = some (kU ((p.num + 1 : Nat) : Int))) := Lib.hid (by have := kU_key (p.num + 1) hnum; rw [show ((p.num + 1 : Nat) : Int) = (p.num : Int) + 1 by omega] at this ⊢; exact this)
  have HEL : Hid (plainElem (H := Unit) Tryz.prog 9 (.string (tx L)) = some (.lit (.string L), [])) := Lib.hid (by have := str_elem (tx L) (by rw [tx_size]; omega); rw [bl_tx] at this; exact this)
  clear a9 z9 b1 hb8 hk8 ho8 hW8 HB7 HOWN
  go_wp2_with (at_mapUpdate; refine wpList_mapUpdate_own _ rfl _ _ _ 51 rfl 24 9 (int_keyed Tryz.underlying24) Tryz.underlying51 (plainElem (H := Unit) Tryz.prog 9) f.mb nn DD rfl HO8.out (by unfold maxLen; have h3 : nn ≤ p.num := hnn; omega) _ _ _ rfl rfl HKY.out (.lit (.string L)) [] HEL.out ?_)
  intro w9 hown9 hgrow9
  have hk89 : Kp (fun b => b = f.mb) W8 w9 := (Kp.refl _ _).grown hgrow9 (fun k e => .inl (Option.some.inj e).symm)
  have hb9 := HB8.out.kp hk89 hpm
  have hk79 : Kp (fun b => b = f.pb ∨ b = f.mb) W7 w9 := (HK8.out.mono (fun b _ e => .inl (by rw [HPB.out]; exact e))).trans (hk89.mono (fun b _ e => .inr e))
  have hwt := WtM.put HO8.out hat hnn (p.num + 1) L hown9
  have hpo := PoM.wait HM7.out (num := p.num + 1) (wt := fun k => if k = p.num + 1 then L else p.wt k) (by rw [HPB.out]; exact hb9) hwt hk79 hnum (fun b => by
    show (if b = p.num + 1 then L else p.wt b).length ≤ _
    split
    · exact hLl
    · exact HM7.out.ok.wl b)
  have HFIN := Lib.hid (HP.out _ w9 ⟨rfl, { f with sf := f' }, hpo, HK7.out.then hk79 (fun b hb e => by rcases e with e | e; exact .inl e; exact .inr (.inl e)), fun b hb => by
    rcases HN6.out b hb with e | e
    · exact .inl e
    · exact .inr (by have := HWS.out; omega), rfl, rfl, rfl⟩)
  clear hown9 hgrow9 hk89 hb9 hk79 hwt hpo HM7 HK7 HP HK67 HB8 HK8 HO8 hat a8
  go_wp2_with fail
  exact HFIN.out
end Go.Proofs.YtfckgddodjmbdaaGreatDoor
