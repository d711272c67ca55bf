/- Which rule is found; its flow; how many there are. -/
import Derived.Test.YtfckgddodjmbdaaGreatDoorMDeviceNobodyF27
import Derived.Test.YtfckgddodjmbdaaGreatDoorMDeviceNobodyF0
import Derived.Test.YtfckgddodjmbdaaGreatDoorMDeviceNobodyF1
import Derived.Test.YtfckgddodjmbdaaGreatDoorMDeviceNobodyF18
import Derived.Deep.RegionWith
import Derived.Deep.RegionHeld3
namespace Go.Proofs.YtfckgddodjmbdaaGreatDoor
set_option linter.unusedVariables false
set_option linter.unusedSimpArgs false
open Go.RowKit
theorem tLen (w : World) (tb : Nat) (l : List RuN) (H : RtM w tb l) : Calls Tryz.prog 69 #[.pointer (some ⟨tb, 0, none⟩)] w fun e w' => e = .returned (.int .i64 l.length) ∧ w = w' := by
  obtain ⟨base, base', sb, db, sn, dn, S, D, zs, pv, fv, h1, h2, h3, h4, h5, h6, hz9, h7, h8⟩ := H.is
  obtain ⟨ao, cap, rfl, _⟩ := h8.is
  have c3 := h1.cell 3 rfl
  clear h1 h2 h3 h4 h5 h6 h7 h8 H
  go_enter Tryz.func69, Tryz.ntmps69
  go_wp2
  go_ret
  exact ⟨rfl, rfl⟩
def atN (o : Option Nat) : Nat := match o with | none => 0 | some i => i
def isN (o : Option Nat) : Bool := match o with | none => false | some _ => true
set_option maxRecDepth 100000 in
set_option maxHeartbeats 8000000 in
theorem tFindR (w : World) (tb : Nat) (l : List RuN) (hok : ∀ r ∈ l, r.Ok) (hc : chkN l = 0) (H : RtM w tb l) (hT : Tab w) (h : HdR) (hh : h.Ok) :
    Calls Tryz.prog 41 #[.pointer (some ⟨tb, 0, none⟩), .agg #[.int .u8 h.ds, .int .u16 h.id, .int .u8 h.ttl, .int .u32 h.s, .int .u32 h.d, .int .u16 h.sp, .int .u16 h.p]] w fun e w' => e = .returned (.tuple #[.int .i64 (atN (findN l h.n) : Nat), .bool (isN (findN l h.n))]) ∧ Kp none' w w' := by
  have k0 := (Kp.refl none' w).alloc (.cells #[.int .u8 h.ds, .int .u16 h.id, .int .u8 h.ttl, .int .u32 h.s, .int .u32 h.d, .int .u16 h.sp, .int .u16 h.p] 56)
  have HL := Lib.hid (tLen _ tb l (H.old k0))
  have HH := Lib.hid (tHold _ tb l hok hc (H.old k0) h hh)
  have HT := Lib.hid hT
  have HK0 := Lib.hid k0
  have hz := (chk_zero.1 hc).1
  obtain ⟨R, hR⟩ : ∃ R, bitsOf (holdsAt l h.n) l.length = R := ⟨_, rfl⟩
  have hRl : R < 18446744073709551616 := by rw [← hR]; exact Nat.lt_of_lt_of_le (bitsOf_lt _ _) (show 2 ^ l.length ≤ 2 ^ 64 from Nat.pow_le_pow_right (by decide) hz)
  rw [hR] at HH
  by_cases hl0 : l.length = 0
  · have hf : findN l h.n = none := findN_none.2 (fun j hj => by omega)
    rw [hf]
    rw [hl0] at HL
    clear H hT k0 hR
    go_enter Tryz.func41, Tryz.ntmps41
    go_wp2_with (go_at_call 69; refine HL.out.mono ?_; rintro e w1 ⟨rfl, rfl⟩)
    go_ret2
    exact ⟨rfl, HK0.out⟩
  · by_cases hR0 : R = 0
    · have hf : findN l h.n = none := first_zero (by rw [hR, hR0])
      rw [hf]
      rw [hR0] at HH
      have hl1 : ¬ (l.length : Int) = 0 := by omega
      clear H hT k0 hR hRl hR0 hl0
      go_enter Tryz.func41, Tryz.ntmps41
      go_wp2_with (first
        | (go_at_call 69; refine HL.out.mono ?_; rintro e w1 ⟨rfl, rfl⟩)
        | (go_at_call 70; refine HH.out.mono ?_; rintro e w2 ⟨rfl, hk2⟩; have HK2 := Lib.hid hk2; clear hk2))
      go_ret2
      exact ⟨rfl, HK0.out.trans HK2.out⟩
    · have hf : findN l h.n = some (Lib.ctz 64 R) := by rw [← hR]; exact first_ctz hz (by rw [hR]; exact hR0)
      rw [hf]
      have hTZ := Lib.hid (fun W (k : Kp none' w W) => tz R hRl W (HT.out.kp k (fun x => x)))
      have hl1 : ¬ (l.length : Int) = 0 := by omega
      have hR1 : ¬ (R : Int) = 0 := by omega
      obtain ⟨c, hcz⟩ : ∃ c, Lib.ctz 64 R = c := ⟨_, rfl⟩
      rw [hcz] at hTZ ⊢
      clear H hT k0 hR hRl hR0 hl0 hcz
      go_enter Tryz.func41, Tryz.ntmps41
      go_wp2_with (first
        | (go_at_call 69; refine HL.out.mono ?_; rintro e w1 ⟨rfl, rfl⟩)
        | (go_at_call 70; refine HH.out.mono ?_; rintro e w2 ⟨rfl, hk2⟩; have HK2 := Lib.hid (HK0.out.trans hk2); clear hk2)
        | (go_at_call 71; refine (hTZ.out _ HK2.out).mono ?_; rintro e w3 ⟨rfl, rfl⟩))
      go_ret2
      exact ⟨rfl, HK2.out⟩
set_option maxRecDepth 100000 in
set_option maxHeartbeats 8000000 in
theorem tFlow (w : World) (tb : Nat) (l : List RuN) (hok : ∀ r ∈ l, r.Ok) (hc : chkN l = 0) (H : RtM w tb l) (hT : Tab w) (h : HdR) (hh : h.Ok) :
    Calls Tryz.prog 19 #[.pointer (some ⟨tb, 0, none⟩), .agg #[.int .u8 h.ds, .int .u16 h.id, .int .u8 h.ttl, .int .u32 h.s, .int .u32 h.d, .int .u16 h.sp, .int .u16 h.p]] w fun e w' => e = .returned (.tuple #[.int .u32 (atN (flowN l h.n) : Nat), .bool (isN (flowN l h.n))]) ∧ Kp none' w w' := by
  have k0 := (Kp.refl none' w).alloc (.cells #[.int .u8 h.ds, .int .u16 h.id, .int .u8 h.ttl, .int .u32 h.s, .int .u32 h.d, .int .u16 h.sp, .int .u16 h.p] 56)
  have HF := Lib.hid (tFindR _ tb l hok hc (H.old k0) (hT.kp k0 (fun x => x)) h hh)
  have HH := Lib.hid (H.old k0)
  have HK0 := Lib.hid k0
  rw [flow_find]
  cases hf : findN l h.n with
  | none =>
    rw [hf] at HF
    simp only [atN, isN] at HF
    clear H hT k0 hf
    go_enter Tryz.func19, Tryz.ntmps19
    go_wp2_with (go_at_call 41; refine HF.out.mono ?_; rintro e w1 ⟨rfl, hk1⟩; have HK1 := Lib.hid (HK0.out.trans hk1); clear hk1)
    go_ret2
    exact ⟨rfl, HK1.out⟩
  | some i =>
    rw [hf] at HF
    simp only [atN, isN] at HF
    obtain ⟨hi, _, _⟩ := findN_some.1 hf
    have hii : (i : Int) < l.length := by omega
    simp only [Option.map_some]
    have hle : l.getD i default = l[i] := getD_at _ hi
    obtain ⟨x, hx⟩ : ∃ x, (l.getD i default).fl = x := ⟨_, rfl⟩
    rw [hx]
    have HX : Hid (l[i].fl = x) := by show _ = _; rw [← hle]; exact hx
    clear H hT k0 hf hle hx
    go_enter Tryz.func19, Tryz.ntmps19
    go_wp2_with (go_at_call 41; refine HF.out.mono ?_; rintro e w1 ⟨rfl, hk1⟩; have HK1 := Lib.hid (HK0.out.trans hk1); have HH1 := Lib.hid (HH.out.old hk1); clear hk1
                 obtain ⟨base, base', sb, db, sn, dn, S, D, zs, pv, fv, h1, h2, h3, h4, h5, h6, hz9, h7, h8⟩ := HH1.out.is
                 obtain ⟨g, off, cap, rfl, hcl⟩ := h8.at (enc := fun r => [flVr r]) (fun _ => rfl) (by decide) i hi
                 have c3 := h1.cell 3 rfl
                 have c4 : w1.cell? ⟨g, off + i * 1, none⟩ = some (.int .u32 l[i].fl) := hcl 0 _ rfl
                 rw [Nat.mul_one, HX.out] at c4
                 clear h1 h2 h3 h4 h5 h6 h7 h8 hcl hz9)
    go_ret2
    exact ⟨rfl, HK1.out⟩
end Go.Proofs.YtfckgddodjmbdaaGreatDoor

namespace Go.Proofs.YtfckgddodjmbdaaGreatDoor
set_option linter.unusedVariables false
set_option linter.unusedSimpArgs false
def be : Nat → Nat → List UInt8
  | 0, _ => []
  | w + 1, n => be w (n / 256) ++ [UInt8.ofNat (n % 256)]
theorem be_len (w : Nat) : ∀ n, (be w n).length = w := by
  induction w with
  | zero => intro n; rfl
  | succ w ih => intro n; simp [be, ih]

def ringN (a b : Nat) : Nat := (a + b) / 65536 + (a + b) % 65536
def inetF : Nat → List UInt8 → Nat
  | n, [] => n
  | n, [a] => ringN n (a.toNat * 256)
  | n, a :: b :: r => inetF (ringN n (a.toNat * 256 + b.toNat)) r
def inetL (l : List UInt8) : Nat := 65535 - inetF 0 l % 65536
theorem ring_le {a b : Nat} (ha : a ≤ 131071) (hb : b ≤ 131071) : ringN a b ≤ 131071 := by unfold ringN; omega
theorem inetF_le : ∀ (l : List UInt8) (n : Nat), n ≤ 131071 → inetF n l ≤ 131071
  | [], n, h => h
  | [a], n, h => by unfold inetF; have := UInt8.toNat_lt a; exact ring_le h (by omega)
  | a :: b :: r, n, h => by unfold inetF; have := UInt8.toNat_lt a; have := UInt8.toNat_lt b; exact inetF_le r _ (ring_le h (by omega))
theorem inetL_lt (l : List UInt8) : inetL l < 65536 := by unfold inetL; omega
def inetI (l : List UInt8) (k : Nat) : Nat := inetF 0 (l.take (2 * k))
theorem inetF_app : ∀ (l r : List UInt8) (n : Nat), l.length % 2 = 0 → inetF n (l ++ r) = inetF (inetF n l) r
  | [], _, _, _ => rfl
  | [a], _, _, h => by simp at h
  | a :: b :: l, r, n, h => by
    show inetF _ (l ++ r) = inetF (inetF _ l) r
    exact inetF_app l r _ (by simp at h ⊢; omega)
theorem inetI_step {l : List UInt8} {k : Nat} (h : 2 * k + 1 < l.length) : inetI l (k + 1) = ringN (inetI l k) ((l[2 * k]'(by omega)).toNat * 256 + (l[2 * k + 1]).toNat) := by
  unfold inetI
  have e : l.take (2 * (k + 1)) = l.take (2 * k) ++ [l[2 * k]'(by omega), l[2 * k + 1]] := by
    have h1 := List.take_succ_eq_append_getElem (i := 2 * k + 1) h
    have h2 := List.take_succ_eq_append_getElem (i := 2 * k) (show 2 * k < l.length by omega)
    rw [show 2 * (k + 1) = 2 * k + 1 + 1 by omega, h1, h2, List.append_assoc]
    rfl
  rw [e, inetF_app _ _ _ (by rw [List.length_take]; omega)]
  rfl
theorem inetI_last {l : List UInt8} {k : Nat} (h : l.length = 2 * k + 1) : inetF 0 l = ringN (inetI l k) ((l[2 * k]'(by omega)).toNat * 256) := by
  unfold inetI
  have e : l = l.take (2 * k) ++ [l[2 * k]'(by omega)] := by
    conv => lhs; rw [← List.take_append_drop (2 * k) l]
    congr 1
    rw [List.drop_eq_getElem_cons (by omega : 2 * k < l.length), List.drop_eq_nil_of_le (by omega)]
  conv => lhs; rw [e]
  rw [inetF_app _ _ _ (by rw [List.length_take]; omega)]
  rfl
theorem inetI_all {l : List UInt8} {k : Nat} (h : l.length ≤ 2 * k) : inetF 0 l = inetI l k := by
  unfold inetI
  rw [List.take_of_length_le h]
def hf (l : List UInt8) (k : Nat) : Nat := (l.getD k 0).toNat * 256 + (l.getD (k + 1) 0).toNat
def wd (l : List UInt8) (k : Nat) : Nat := hf l k * 65536 + hf l (k + 2)
theorem hf_lt (l : List UInt8) (k : Nat) : hf l k < 65536 := by
  unfold hf
  have := UInt8.toNat_lt (l.getD k 0)
  have := UInt8.toNat_lt (l.getD (k + 1) 0)
  omega
theorem wd_lt (l : List UInt8) (k : Nat) : wd l k < 4294967296 := by
  unfold wd
  have := hf_lt l k
  have := hf_lt l (k + 2)
  omega
def frontL (h : HdR) (n : Nat) : List UInt8 := be 2 (17664 + h.ds * 4) ++ (be 2 (n + 28) ++ (be 2 h.id ++ (be 2 0 ++ be 2 (h.ttl * 256 + 17))))
def backL (h : HdR) : List UInt8 := be 2 (h.s / 65536) ++ (be 2 (h.s % 65536) ++ (be 2 (h.d / 65536) ++ be 2 (h.d % 65536)))
def putL (h : HdR) (body : List UInt8) : List UInt8 :=
  frontL h body.length ++ (be 2 (inetL (frontL h body.length ++ ([0, 0] ++ backL h))) ++ (backL h ++ (be 2 h.sp ++ (be 2 h.p ++ (be 2 (body.length + 8) ++ (be 2 0 ++ body))))))
def formB (l : List UInt8) : Bool := decide ((l.getD 0 0).toNat = 69) && (decide ((l.getD 1 0).toNat % 4 = 0) && (decide (hf l 2 = l.length) && (decide (hf l 6 = 0) && (decide ((l.getD 9 0).toNat = 17) && (decide (hf l 24 + 20 = l.length) && decide (hf l 26 = 0))))))
def topL (l : List UInt8) : List UInt8 := l.take 10 ++ ([0, 0] ++ (l.drop 12).take 8)
def takeE (l : List UInt8) : Int := if l.length < 28 then 2 else if formB l = false then 3 else if hf l 10 = inetL (topL l) then 0 else 11
def takeH (l : List UInt8) : HdR := ⟨(l.getD 1 0).toNat / 4, hf l 4, (l.getD 8 0).toNat, wd l 12, wd l 16, hf l 20, hf l 22⟩
def updN (sum was is : Nat) : Nat := 65535 - ringN (ringN (65535 - sum) (65535 - was)) is % 65536
def cutAt (l : List UInt8) (k : Nat) (x : Nat) : List UInt8 := l.take k ++ (be 2 x ++ l.drop (k + 2))
def withL (l : List UInt8) (k : Nat) (x : Nat) : List UInt8 := cutAt (cutAt l k x) 10 (updN (hf l 10) (hf l k) x)
def hopE (l : List UInt8) : Int := if takeE l ≠ 0 then takeE l else if (l.getD 8 0).toNat < 2 then 21 else 0
def hopL (l : List UInt8) : List UInt8 := withL l 8 (hf l 8 - 256)
theorem cutAt_len {l : List UInt8} {k : Nat} (h : k + 2 ≤ l.length) (x : Nat) : (cutAt l k x).length = l.length := by
  unfold cutAt
  simp only [List.length_append, List.length_take, List.length_drop, be_len]
  omega

structure Mt where
  rate : Nat
  near : Nat
  far : Nat
  a : Nat
  b : Nat
def Mt.zero : Mt := ⟨0, 0, 0, 0, 0⟩
structure Mt.Lt (m : Mt) : Prop where
  rate : m.rate < 18446744073709551616
  near : m.near < 18446744073709551616
  far : m.far < 18446744073709551616
  a : m.a < 18446744073709551616
  b : m.b < 18446744073709551616
def mtChk (m : Mt) : Nat := if m.rate = 0 then 27 else if (m.near = 0 ∧ m.far = 0) ∨ m.near < m.a ∨ m.far < m.b then 28 else 0
def colMt (m : Mt) (n : Nat) : Mt × Nat := if n ≤ m.a then ({ m with a := m.a - n }, 1) else if n ≤ m.b then ({ m with b := m.b - n }, 2) else (m, 3)
structure Mt.Ok (m : Mt) : Prop where
  lt : m.Lt
  chk : 0 < m.rate → mtChk m = 0
theorem mtChk_zero {m : Mt} : mtChk m = 0 ↔ 0 < m.rate ∧ (0 < m.near ∨ 0 < m.far) ∧ m.a ≤ m.near ∧ m.b ≤ m.far := by
  unfold mtChk
  split
  · constructor <;> omega
  · split
    · constructor <;> omega
    · constructor <;> omega
theorem colMt_ok {m : Mt} (h : m.Lt) (hc : mtChk m = 0) (n : Nat) : (colMt m n).1.Lt ∧ mtChk (colMt m n).1 = 0 := by
  have h1 := mtChk_zero.1 hc
  unfold colMt
  split
  · exact ⟨⟨h.rate, h.near, h.far, by show m.a - n < _; have := h.a; omega, h.b⟩, mtChk_zero.2 ⟨h1.1, h1.2.1, by show m.a - n ≤ m.near; omega, h1.2.2.2⟩⟩
  · split
    · exact ⟨⟨h.rate, h.near, h.far, h.a, by show m.b - n < _; have := h.b; omega⟩, mtChk_zero.2 ⟨h1.1, h1.2.1, h1.2.2.1, by show m.b - n ≤ m.far; omega⟩⟩
    · exact ⟨h, hc⟩

structure Po where
  s : Sh
  rl : List RuN
  m : Mt
  y : Nat
  wt : Nat → List UInt8
  num : Nat
def Po.lay (p : Po) (id : Nat) (x : List UInt8) : Po := { p with wt := fun k => if k = id then x else p.wt k }
def colP (m : Mt) (n : Nat) : Mt × Nat := if m.rate = 0 then (m, 1) else colMt m n
end Go.Proofs.YtfckgddodjmbdaaGreatDoor

namespace Go.Proofs.YtfckgddodjmbdaaGreatDoor
set_option linter.unusedVariables false
set_option linter.unusedSimpArgs false
open Go Go.RowKit Go.Shelf
abbrev ShTo (w : World) (f : ShF) (s' : Sh) (w' : World) : Prop := ∃ f', ShM w' f' s' ∧ Kp f.all w w' ∧ Nw w f.all f'.all ∧ f'.sb = f.sb
set_option maxRecDepth 100000 in
set_option maxHeartbeats 8000000 in
theorem enqYes {w : World} {f : ShF} {s : Sh} (kind : Int) (fl id ln tk : Nat) (h : ShM w f s) (hm : mayG s.g fl ln = 0) (hid : fl < 4294967296) (hidd : id < 4294967296) (hln : ln < 18446744073709551616) (hn : bkN s.bk < 9223372036854775807) :
    Calls Tryz.prog 45 #[.pointer (some ⟨f.sb, 0, none⟩), .agg #[.int .i64 kind, .int .u32 fl, .int .u32 id, .int .u64 ln, .int .u64 tk]] w fun e w' => e = .returned (.agg (enqS s fl id ln).1.toArray) ∧ ShTo w f (enqS s fl id ln).2 w' := by
  have HOK2 := Lib.hid (enq_ok h.ok h.gate.ok h.ranks.ok hid hidd hln)
  have hq : enqS s fl id ln = (rpC 1 0 fl id ln (nextR s.r s.now fl ln).1 zSt, { s with g := inG s.g fl ln, r := (nextR s.r s.now fl ln).2, bk := bkPush s.bk (nextR s.r s.now fl ln).1 ⟨fl, id, ln⟩ }) := by unfold enqS; rw [if_pos hm]
  rw [hq] at HOK2 ⊢
  clear hq
  have HOK := Lib.hid h.ok
  have hnow := h.ok.now
  obtain ⟨t5, x5, gu, ge, gp, hv, hbc⟩ := h.back.c
  have HBC := Lib.hid hbc
  have hhp := h.back
  rw [hv] at hhp
  have HG := Lib.hid h.gate
  have HR := Lib.hid h.ranks
  have HBKH := Lib.hid hhp
  have HB0 := Lib.hid h.top
  have hsl := h.top.lt
  have c0 := h.top.cell 0 rfl
  have c1 := h.top.cell 1 rfl
  have c5 := h.top.cell 5 rfl
  have c6 := h.top.cell 6 rfl
  have HSG := Lib.hid h.sg; have HSR := Lib.hid h.sr; have HSK := Lib.hid h.sk
  have HGR := Lib.hid h.gr; have HGK := Lib.hid h.gk; have HRK := Lib.hid h.rk
  have HGL := Lib.hid (fun b hb => h.gate.lt (b := b) hb); have HRL := Lib.hid (fun b hb => h.ranks.lt (b := b) hb); have HBL := Lib.hid (fun b hb => h.back.lt (b := b) hb)
  have hfl := h.ok.fl
  have hroom : (bkItems s.bk).length < s.g.c.packets.toNat := by have h1 := h.ok.tot; have h2 := may_room hm; omega
  have hat : 0 ≤ findF s.r.fl fl := by rw [hfl]; exact (lay_ok h.gate.ok (may_fit hm)).1
  have HIN := Lib.hid (fun W (k : GMem W f.Fg f.gb s.g) => by have := gIn k fl ln hid; rw [hm] at this; exact this)
  have HNX := Lib.hid (fun W (k : RMem W f.Fr f.rb s.r) => kNext k s.now fl ln hnow hln hat)
  have HPU := Lib.hid (fun W (F : Nat → Prop) (r : Nat) (hr : r < 18446744073709551616) (k : BkM W F (.iface t5 x5) s.g.c.packets.toNat s.bk) => HBC.out.push W F _ _ r fl id ln k hroom hn hr)
  have HTOP := Lib.hid h.top
  have hwp := c_in s.g fl ln
  have HWP := Lib.hid hwp
  rw [hv] at c5
  have HV := Lib.hid hv
  refine calls_post ?_
  intro PP HP
  clear h hbc hm hfl hid hidd hln hroom hn hnow hhp hat hwp hv
  obtain ⟨sb, gb, rb, v, Fg, Fr, Fb⟩ := f
  simp only at *
  obtain ⟨now, hnw⟩ : ∃ now, s.now = now := ⟨_, rfl⟩
  have HNW := Lib.hid hnw
  simp only [hnw] at HNX c6
  clear hnw
  have hz0 := Blk.new (w.alloc (.cells #[.int .i64 kind, .int .u32 fl, .int .u32 id, .int .u64 ln, .int .u64 tk] 70)) [.int .i64 0, .int .i64 0, .int .u32 0, .int .u32 0, .int .u64 0, .int .u64 0, .int .u64 0, .int .u64 0, .int .i64 0, .int .u64 0, .int .u64 0, .int .u64 0, .int .u64 0, .int .u64 0, .int .u64 0, .int .u64 0, .int .u64 0, .int .u64 0, .int .u64 0, .int .u64 0, .int .u64 0, .int .u64 0, .int .u64 0, .int .u64 0, .int .u64 0, .int .u64 0, .int .u64 0, .int .u64 0, .int .u64 0, .int .u64 0, .int .u64 0, .int .u64 0, .int .u64 0, .int .u64 0, .int .u64 0, .int .u64 0, .int .u64 0, .int .u64 0, .int .u64 0, .int .u64 0, .int .u64 0, .int .u64 0] 67
  have e1 : (w.alloc (.cells #[.int .i64 kind, .int .u32 fl, .int .u32 id, .int .u64 ln, .int .u64 tk] 70)).heap.size = w.heap.size + 1 := by simp
  rw [e1] at hz0
  have HZ0 := Lib.hid hz0
  have hz1 := Blk.new ((w.alloc (.cells #[.int .i64 kind, .int .u32 fl, .int .u32 id, .int .u64 ln, .int .u64 tk] 70)).alloc (.cells #[.int .i64 0, .int .i64 0, .int .u32 0, .int .u32 0, .int .u64 0, .int .u64 0, .int .u64 0, .int .u64 0, .int .i64 0, .int .u64 0, .int .u64 0, .int .u64 0, .int .u64 0, .int .u64 0, .int .u64 0, .int .u64 0, .int .u64 0, .int .u64 0, .int .u64 0, .int .u64 0, .int .u64 0, .int .u64 0, .int .u64 0, .int .u64 0, .int .u64 0, .int .u64 0, .int .u64 0, .int .u64 0, .int .u64 0, .int .u64 0, .int .u64 0, .int .u64 0, .int .u64 0, .int .u64 0, .int .u64 0, .int .u64 0, .int .u64 0, .int .u64 0, .int .u64 0, .int .u64 0, .int .u64 0, .int .u64 0] 67)) [.int .u32 fl, .int .u32 id, .int .u64 ln] 65
  have hz2 := Blk.new (((w.alloc (.cells #[.int .i64 kind, .int .u32 fl, .int .u32 id, .int .u64 ln, .int .u64 tk] 70)).alloc (.cells #[.int .i64 0, .int .i64 0, .int .u32 0, .int .u32 0, .int .u64 0, .int .u64 0, .int .u64 0, .int .u64 0, .int .i64 0, .int .u64 0, .int .u64 0, .int .u64 0, .int .u64 0, .int .u64 0, .int .u64 0, .int .u64 0, .int .u64 0, .int .u64 0, .int .u64 0, .int .u64 0, .int .u64 0, .int .u64 0, .int .u64 0, .int .u64 0, .int .u64 0, .int .u64 0, .int .u64 0, .int .u64 0, .int .u64 0, .int .u64 0, .int .u64 0, .int .u64 0, .int .u64 0, .int .u64 0, .int .u64 0, .int .u64 0, .int .u64 0, .int .u64 0, .int .u64 0, .int .u64 0, .int .u64 0, .int .u64 0] 67)).alloc (.cells #[.int .u32 fl, .int .u32 id, .int .u64 ln] 65)) [.int .i64 0, .int .i64 0, .int .u32 0, .int .u32 0, .int .u64 0, .int .u64 0, .int .u64 0, .int .u64 0, .int .i64 0, .int .u64 0, .int .u64 0, .int .u64 0, .int .u64 0, .int .u64 0, .int .u64 0, .int .u64 0, .int .u64 0, .int .u64 0, .int .u64 0, .int .u64 0, .int .u64 0, .int .u64 0, .int .u64 0, .int .u64 0, .int .u64 0, .int .u64 0, .int .u64 0, .int .u64 0, .int .u64 0, .int .u64 0, .int .u64 0, .int .u64 0, .int .u64 0, .int .u64 0, .int .u64 0, .int .u64 0, .int .u64 0, .int .u64 0, .int .u64 0, .int .u64 0, .int .u64 0, .int .u64 0] 67
  have hk0 := ((((Kp.refl none' w).alloc (.cells #[.int .i64 kind, .int .u32 fl, .int .u32 id, .int .u64 ln, .int .u64 tk] 70)).alloc (.cells #[.int .i64 0, .int .i64 0, .int .u32 0, .int .u32 0, .int .u64 0, .int .u64 0, .int .u64 0, .int .u64 0, .int .i64 0, .int .u64 0, .int .u64 0, .int .u64 0, .int .u64 0, .int .u64 0, .int .u64 0, .int .u64 0, .int .u64 0, .int .u64 0, .int .u64 0, .int .u64 0, .int .u64 0, .int .u64 0, .int .u64 0, .int .u64 0, .int .u64 0, .int .u64 0, .int .u64 0, .int .u64 0, .int .u64 0, .int .u64 0, .int .u64 0, .int .u64 0, .int .u64 0, .int .u64 0, .int .u64 0, .int .u64 0, .int .u64 0, .int .u64 0, .int .u64 0, .int .u64 0, .int .u64 0, .int .u64 0] 67)).alloc (.cells #[.int .u32 fl, .int .u32 id, .int .u64 ln] 65)).alloc (.cells #[.int .i64 0, .int .i64 0, .int .u32 0, .int .u32 0, .int .u64 0, .int .u64 0, .int .u64 0, .int .u64 0, .int .i64 0, .int .u64 0, .int .u64 0, .int .u64 0, .int .u64 0, .int .u64 0, .int .u64 0, .int .u64 0, .int .u64 0, .int .u64 0, .int .u64 0, .int .u64 0, .int .u64 0, .int .u64 0, .int .u64 0, .int .u64 0, .int .u64 0, .int .u64 0, .int .u64 0, .int .u64 0, .int .u64 0, .int .u64 0, .int .u64 0, .int .u64 0, .int .u64 0, .int .u64 0, .int .u64 0, .int .u64 0, .int .u64 0, .int .u64 0, .int .u64 0, .int .u64 0, .int .u64 0, .int .u64 0] 67)
  have e2 : ((w.alloc (.cells #[.int .i64 kind, .int .u32 fl, .int .u32 id, .int .u64 ln, .int .u64 tk] 70)).alloc (.cells #[.int .i64 0, .int .i64 0, .int .u32 0, .int .u32 0, .int .u64 0, .int .u64 0, .int .u64 0, .int .u64 0, .int .i64 0, .int .u64 0, .int .u64 0, .int .u64 0, .int .u64 0, .int .u64 0, .int .u64 0, .int .u64 0, .int .u64 0, .int .u64 0, .int .u64 0, .int .u64 0, .int .u64 0, .int .u64 0, .int .u64 0, .int .u64 0, .int .u64 0, .int .u64 0, .int .u64 0, .int .u64 0, .int .u64 0, .int .u64 0, .int .u64 0, .int .u64 0, .int .u64 0, .int .u64 0, .int .u64 0, .int .u64 0, .int .u64 0, .int .u64 0, .int .u64 0, .int .u64 0, .int .u64 0, .int .u64 0] 67)).heap.size = w.heap.size + 2 := by simp
  have e3 : (((w.alloc (.cells #[.int .i64 kind, .int .u32 fl, .int .u32 id, .int .u64 ln, .int .u64 tk] 70)).alloc (.cells #[.int .i64 0, .int .i64 0, .int .u32 0, .int .u32 0, .int .u64 0, .int .u64 0, .int .u64 0, .int .u64 0, .int .i64 0, .int .u64 0, .int .u64 0, .int .u64 0, .int .u64 0, .int .u64 0, .int .u64 0, .int .u64 0, .int .u64 0, .int .u64 0, .int .u64 0, .int .u64 0, .int .u64 0, .int .u64 0, .int .u64 0, .int .u64 0, .int .u64 0, .int .u64 0, .int .u64 0, .int .u64 0, .int .u64 0, .int .u64 0, .int .u64 0, .int .u64 0, .int .u64 0, .int .u64 0, .int .u64 0, .int .u64 0, .int .u64 0, .int .u64 0, .int .u64 0, .int .u64 0, .int .u64 0, .int .u64 0] 67)).alloc (.cells #[.int .u32 fl, .int .u32 id, .int .u64 ln] 65)).heap.size = w.heap.size + 3 := by simp
  rw [e2] at hz1
  rw [e3] at hz2
  have HZ1 := Lib.hid hz1
  have HZ2 := Lib.hid hz2
  have HK0 := Lib.hid hk0
  clear hz0 hz1 hz2 hk0 e1 e2 e3
  go_enter Tryz.func45, Tryz.ntmps45
  go_wp2_with (first
    | (refine wp_store_blk rfl 67 (.tmp 6) (.tmp 16) rfl HZ2.out [.int .i64 1, .int .i64 0, .int .u32 fl, .int .u32 id, .int .u64 ln, .int .u64 0, .int .u64 0, .int .u64 0, .int .i64 0, .int .u64 0, .int .u64 0, .int .u64 0, .int .u64 0, .int .u64 0, .int .u64 0, .int .u64 0, .int .u64 0, .int .u64 0, .int .u64 0, .int .u64 0, .int .u64 0, .int .u64 0, .int .u64 0, .int .u64 0, .int .u64 0, .int .u64 0, .int .u64 0, .int .u64 0, .int .u64 0, .int .u64 0, .int .u64 0, .int .u64 0, .int .u64 0, .int .u64 0, .int .u64 0, .int .u64 0, .int .u64 0, .int .u64 0, .int .u64 0, .int .u64 0, .int .u64 0, .int .u64 0] rfl rfl rfl infoRp rfl ?_
       intro W4 hb4 hk4
       have HB4 := Lib.hid hb4
       have HK4 := Lib.hid hk4
       clear hb4 hk4))
  have k04 : Kp none' w W4 := HK0.out.then HK4.out (fun b hb e => by omega)
  have HP4 := Lib.hid ((HZ1.out.alloc (.cells #[.int .i64 0, .int .i64 0, .int .u32 0, .int .u32 0, .int .u64 0, .int .u64 0, .int .u64 0, .int .u64 0, .int .i64 0, .int .u64 0, .int .u64 0, .int .u64 0, .int .u64 0, .int .u64 0, .int .u64 0, .int .u64 0, .int .u64 0, .int .u64 0, .int .u64 0, .int .u64 0, .int .u64 0, .int .u64 0, .int .u64 0, .int .u64 0, .int .u64 0, .int .u64 0, .int .u64 0, .int .u64 0, .int .u64 0, .int .u64 0, .int .u64 0, .int .u64 0, .int .u64 0, .int .u64 0, .int .u64 0, .int .u64 0, .int .u64 0, .int .u64 0, .int .u64 0, .int .u64 0, .int .u64 0, .int .u64 0] 67)).kp HK4.out (fun e => by omega))
  have HZ4 := Lib.hid (((HZ0.out.alloc (.cells #[.int .u32 fl, .int .u32 id, .int .u64 ln] 65)).alloc (.cells #[.int .i64 0, .int .i64 0, .int .u32 0, .int .u32 0, .int .u64 0, .int .u64 0, .int .u64 0, .int .u64 0, .int .i64 0, .int .u64 0, .int .u64 0, .int .u64 0, .int .u64 0, .int .u64 0, .int .u64 0, .int .u64 0, .int .u64 0, .int .u64 0, .int .u64 0, .int .u64 0, .int .u64 0, .int .u64 0, .int .u64 0, .int .u64 0, .int .u64 0, .int .u64 0, .int .u64 0, .int .u64 0, .int .u64 0, .int .u64 0, .int .u64 0, .int .u64 0, .int .u64 0, .int .u64 0, .int .u64 0, .int .u64 0, .int .u64 0, .int .u64 0, .int .u64 0, .int .u64 0, .int .u64 0, .int .u64 0] 67)).kp HK4.out (fun e => by omega))
  have K04 := Lib.hid k04
  have d0 := k04.cell c0 (fun x => x)
  have p0 := HP4.out.cell 0 rfl
  have p2 := HP4.out.cell 2 rfl
  clear HZ0 HZ1 HZ2 HK0 HK4 k04
  go_wp2_with fail
  refine wp_region_kept2 [] [0, 1, 2, 3, 4, 5, 6, 7] 8 (by kernel_rfl) (by kernel_rfl) (fun c a d u w h => by cases d <;> exact h) ?_
  simp only [pick, List.getElem?_cons_succ, List.getElem?_cons_zero, List.drop_succ_cons, List.drop_zero]
  show wpKL _ _ _ _ _ _
  repeat (first
    | (refine wpKL_op (by exact rfl) (by as_aux_lemma => intro W hK; have e0 := hK.cell d0 (fun x => x); have e1 := hK.cell p0 (fun x => x); have e2 := hK.cell p2 (fun x => x); go_simp; exact rfl) ?_; simp only [Act.put, List.setIfInBounds_toArray, List.set_cons_succ, List.set_cons_zero])
    | (refine wpKL_off (by exact rfl) ?_; simp only [Act.put, List.setIfInBounds_toArray, List.set_cons_succ, List.set_cons_zero]))
  show ∀ W, _ → wpList _ _ _ _ _ _
  intro W5 hK5
  have K05 := Lib.hid (K04.out.trans hK5)
  have HP5 := Lib.hid (HP4.out.kp hK5 (fun x => x))
  have HB5 := Lib.hid (HB4.out.kp hK5 (fun x => x))
  have HG5 := Lib.hid (HG.out.old K05.out)
  have HZ5 := Lib.hid (HZ4.out.kp hK5 (fun x => x))
  clear hK5 d0 p0 p2 HP4 HB4 K04
  go_wp2_with fail
  refine (HIN.out W5 HG5.out).mono ?_
  rintro e W6 ⟨rfl, hg6, hk6⟩
  have k06 : Kp Fg w W6 := (K05.out.mono (fun _ _ x => x.elim)).trans hk6
  have K06 := Lib.hid k06
  have hgl := HGL.out
  have HG6 := Lib.hid hg6
  have HP6 := Lib.hid (HP5.out.kp hk6 (fun hb => by have := hgl _ hb; omega))
  have HB6 := Lib.hid (HB5.out.kp hk6 (fun hb => by have := hgl _ hb; omega))
  have HZ6 := Lib.hid (HZ5.out.kp hk6 (fun hb => by have := hgl _ hb; omega))
  have HR6 := Lib.hid (HR.out.kp k06 (fun b hb hg => HGR.out b hg hb))
  have HH6 := Lib.hid (HBKH.out.kp k06 (fun b hb hg => HGK.out b hg hb))
  have d1 := k06.cell c1 HSG.out
  have d6 := k06.cell c6 HSG.out
  have p0 := HP6.out.cell 0 rfl
  have p2 := HP6.out.cell 2 rfl
  clear hg6 hk6 k06 hgl HIN HG HR HBKH HB5 HP5 K05 HG5
  have HNX6 := Lib.hid (fun W (k : Kp none' W6 W) => HNX.out W (HR6.out.old k))
  have hrl := HRL.out
  have HPL : Hid (¬ Fr (w.heap.size + 2)) := Lib.hid (fun hb => by have := hrl _ hb; omega)
  have HBL3 : Hid (¬ Fr (w.heap.size + 3)) := Lib.hid (fun hb => by have := hrl _ hb; omega)
  clear hrl HNX HR6
  generalize hRK : (nextR s.r now fl ln) = RK at *
  go_wp2_with fail
  have HD1 := Lib.hid d1
  have HD6 := Lib.hid d6
  have HSR2 := HSR
  go_region_held3 (fun w' => w'.cell? ⟨sb, 1, none⟩ = some (.pointer (some ⟨rb, 0, none⟩)) ∧ w'.cell? ⟨sb, 6, none⟩ = some (.int .u64 now) ∧ w'.cell? ⟨w.heap.size + 2, 0, none⟩ = some (.int .u32 fl) ∧ w'.cell? ⟨w.heap.size + 2, 2, none⟩ = some (.int .u64 ln)) (first | go_keep | exact ⟨m1, m6, m0, m2⟩)
    (first
      | (go_at_call 74; refine (HNX6.out _ (Kp.refl none' W6).drew).mono ?_; rintro e W8 ⟨rfl, hr8, hrk, hk8⟩; have K8 := Lib.hid (((Kp.refl none' W6).drew.mono (fun _ _ x => x.elim)).trans hk8); have HR8 := Lib.hid hr8; have HB8 := Lib.hid (HB6.out.kp K8.out HBL3.out); have b5 := HB8.out.cell 5 rfl; have bz := HB8.out.fz 5; have g1 := K8.out.cell d1 HSR.out; have g6 := K8.out.cell d6 HSR.out; have q0 := K8.out.cell p0 HPL.out; have q2 := K8.out.cell p2 HPL.out; have ks : Kp (fun z => z = w.heap.size + 3) W8 (W8.setCell ⟨w.heap.size + 3, 5, none⟩ (.int .u64 RK.1)) := (Kp.refl (fun z => z = w.heap.size + 3) W8).set (p := ⟨w.heap.size + 3, 5, none⟩) (.inl rfl) _; have m1 := ks.cell g1 (fun e => by simp only at e; omega); have m6 := ks.cell g6 (fun e => by simp only at e; omega); have m0 := ks.cell q0 (fun e => by simp only at e; omega); have m2 := ks.cell q2 (fun e => by simp only at e; omega); have KS := Lib.hid ks; clear hr8 hk8 ks))
  have hrl := HRL.out
  have hgl := HGL.out
  have hbl := HBL.out
  have HG8 := Lib.hid (HG6.out.kp K8.out (fun b hg hr => HGR.out b hg hr))
  have HH8 := Lib.hid (HH6.out.kp K8.out (fun b hb hr => HRK.out b hr hb))
  have HP8 := Lib.hid (HP6.out.kp K8.out HPL.out)
  have K08 : Hid (Kp (fun z => Fg z ∨ Fr z) w W8) := Lib.hid ((K06.out.mono (fun b _ h => .inl h)).trans (K8.out.mono (fun b _ h => .inr h)))
  have HZ9 := Lib.hid ((HZ6.out.kp K8.out (fun hb => by have := hrl _ hb; omega)).kp KS.out (fun e => by omega))
  have HB9 := Lib.hid (HB8.out.set 5 (.int .u64 RK.1))
  have HG9 := Lib.hid (HG8.out.kp KS.out (fun b hb e => by have := hgl b hb; omega))
  have HR9 := Lib.hid (HR8.out.kp KS.out (fun b hb e => by have := hrl b hb; omega))
  have HH9 := Lib.hid (HH8.out.kp KS.out (fun b hb e => by have := hbl b hb; omega))
  have HP9 := Lib.hid (HP8.out.kp KS.out (fun e => by omega))
  have K09 : Hid (Kp (fun z => Fg z ∨ Fr z) w (W8.setCell ⟨w.heap.size + 3, 5, none⟩ (.int .u64 RK.1))) := Lib.hid (K08.out.then KS.out (fun b hb e => by omega))
  have d5 := K09.out.cell c5 (fun h => h.elim HSG.out HSR.out)
  have HRK9 := Lib.hid hrk
  obtain ⟨W9, hW9⟩ : ∃ W9, W8.setCell ⟨w.heap.size + 3, 5, none⟩ (.int .u64 RK.1) = W9 := ⟨_, rfl⟩
  rw [hW9] at HB9 HZ9 HG9 HR9 HH9 HP9 K09 d5
  rw [show W8.setCell ⟨w.heap.size + 1 + 1 + 1, 5, none⟩ (.int .u64 RK.1) = W9 from hW9]
  have p5 := HB9.out.cell 5 rfl
  have HLD := Lib.hid (pk_load HP9.out)
  clear hW9 hrl hgl hbl K8 HR8 HB8 KS g1 g6 q0 q2 m1 m6 m0 m2 b5 bz hrk HNX6 HG6 HH6 HP6 HB6 d1 d6 p0 p2 HD1 HD6
  go_wp2_with fail
  refine wp_region_kept2 [] [0, 1, 2, 3, 4, 5, 6] 7 (by kernel_rfl) (by kernel_rfl) (fun c a d u w h => by cases d <;> exact h) ?_
  simp only [pick, List.getElem?_cons_succ, List.getElem?_cons_zero, List.drop_succ_cons, List.drop_zero]
  show wpKL _ _ _ _ _ _
  repeat (first
    | (refine wpKL_op (by exact rfl) (load_at rfl rfl HLD.out) ?_; simp only [Act.put, List.setIfInBounds_toArray, List.set_cons_succ, List.set_cons_zero])
    | (refine wpKL_op (by exact rfl) (by as_aux_lemma => intro W hK; have e0 := hK.cell d5 (fun x => x); have e1 := hK.cell p5 (fun x => x); go_simp; exact rfl) ?_; simp only [Act.put, List.setIfInBounds_toArray, List.set_cons_succ, List.set_cons_zero])
    | (refine wpKL_off (by exact rfl) ?_; simp only [Act.put, List.setIfInBounds_toArray, List.set_cons_succ, List.set_cons_zero]))
  show ∀ W, _ → wpList _ _ _ _ _ _
  intro W10 hK10
  have hmth := HBC.out.mu W10
  have hcf := HBC.out.cu
  have HZ10 := Lib.hid (HZ9.out.kp hK10 (fun x => x))
  have HB10 := Lib.hid (HB9.out.kp hK10 (fun x => x))
  have HG10 := Lib.hid (HG9.out.old hK10)
  have HR10 := Lib.hid (HR9.out.old hK10)
  have HH10 := Lib.hid (HH9.out.old hK10)
  have K10 := Lib.hid (K09.out.trans (hK10.mono (fun _ _ x => x.elim)))
  clear hK10 d5 p5 HLD HP9 HB9 HG9 HR9 HH9 K09
  go_wp2_with fail
  refine (HPU.out W10 Fb RK.1 HRK9.out HH10.out).mono ?_
  rintro e W11 ⟨rfl, F', hp11, hk11, hn11⟩
  have hbl := HBL.out
  have HB11 := Lib.hid (HB10.out.kp hk11 (fun hb => by have := hbl _ hb; omega))
  have HZ11 := Lib.hid (HZ10.out.kp hk11 (fun hb => by have := hbl _ hb; omega))
  have K11 : Hid (Kp (fun z => Fg z ∨ Fr z ∨ Fb z) w W11) := Lib.hid ((K10.out.mono (fun z _ h => by rcases h with h | h; exact .inl h; exact .inr (.inl h))).trans (hk11.mono (fun z _ h => .inr (.inr h))))
  have HG11 := Lib.hid (HG10.out.kp hk11 (fun z h1 h2 => HGK.out z h1 h2))
  have HR11 := Lib.hid (HR10.out.kp hk11 (fun z h1 h2 => HRK.out z h1 h2))
  have HH11 := Lib.hid hp11
  have HN11 := Lib.hid hn11
  have HS10 := Lib.hid HB10.out.lt
  clear hp11 hk11 hn11 hmth hcf HB10 HZ10 K10 HG10 HR10 HH10 hbl c0 c1 c5 c6
  go_wp2_with (first
    | (refine wpList_load_mid rfl 67 (.tmp 6) rfl (w.heap.size + 3) 0 rfl ([.int .i64 1, .int .i64 0, .int .u32 fl, .int .u32 id, .int .u64 ln, .int .u64 0, .int .u64 0, .int .u64 0, .int .i64 0, .int .u64 0, .int .u64 0, .int .u64 0, .int .u64 0, .int .u64 0, .int .u64 0, .int .u64 0, .int .u64 0, .int .u64 0, .int .u64 0, .int .u64 0, .int .u64 0, .int .u64 0, .int .u64 0, .int .u64 0, .int .u64 0, .int .u64 0, .int .u64 0, .int .u64 0, .int .u64 0, .int .u64 0, .int .u64 0, .int .u64 0, .int .u64 0, .int .u64 0, .int .u64 0, .int .u64 0, .int .u64 0, .int .u64 0, .int .u64 0, .int .u64 0, .int .u64 0, .int .u64 0].set 5 (.int .u64 RK.1)) _ (fun j v hv => by rw [Nat.zero_add]; exact HB11.out.cell j hv) Tryz.underlying67 rfl infoRp ?_)
    | (refine wp_store_blk rfl 67 (.tmp 4) (.tmp 58) rfl HZ11.out ([.int .i64 1, .int .i64 0, .int .u32 fl, .int .u32 id, .int .u64 ln, .int .u64 0, .int .u64 0, .int .u64 0, .int .i64 0, .int .u64 0, .int .u64 0, .int .u64 0, .int .u64 0, .int .u64 0, .int .u64 0, .int .u64 0, .int .u64 0, .int .u64 0, .int .u64 0, .int .u64 0, .int .u64 0, .int .u64 0, .int .u64 0, .int .u64 0, .int .u64 0, .int .u64 0, .int .u64 0, .int .u64 0, .int .u64 0, .int .u64 0, .int .u64 0, .int .u64 0, .int .u64 0, .int .u64 0, .int .u64 0, .int .u64 0, .int .u64 0, .int .u64 0, .int .u64 0, .int .u64 0, .int .u64 0, .int .u64 0].set 5 (.int .u64 RK.1)) rfl rfl rfl infoRp rfl ?_
       intro W12 hb12 hk12
       have HB12 := Lib.hid hb12
       have HK12 := Lib.hid hk12
       clear hb12 hk12))
  have hgl := HGL.out
  have hrl := HRL.out
  have hbl := HBL.out
  have hs10 := HS10.out
  have K12 : Kp (fun z => Fg z ∨ Fr z ∨ Fb z) w W12 := K11.out.then HK12.out (fun z hz e => by omega)
  have hF : ∀ z, F' z → Fb z ∨ w.heap.size + 3 < z := fun z hz => (HN11.out z hz).imp_right (fun h => by omega)
  have e0 : nextR s.r s.now fl ln = RK := by rw [HNW.out]; exact hRK
  rw [e0] at HP
  refine ret_blk (by exact rfl) HB12.out _ Tryz.underlying67 rfl infoRp (by exact rfl) (HP.out _ _ ⟨rfl, ⟨sb, gb, rb, v, Fg, Fr, F'⟩, ?_, ?_, ?_, rfl⟩)
  · exact { top := HTOP.out.kp K12 (fun h => by rcases h with h | h | h; exact HSG.out h; exact HSR.out h; exact HSK.out h)
            gate := HG11.out.kp HK12.out (fun z hz e => by have := hgl z hz; omega)
            ranks := HR11.out.kp HK12.out (fun z hz e => by have := hrl z hz; omega)
            back := by
              show BkM W12 F' v (inG s.g fl ln).c.packets.toNat _
              rw [HWP.out, HV.out]
              exact HH11.out.kp HK12.out (fun z hz e => by rcases hF z hz with h | h; (have := hbl z h; omega); omega)
            sg := HSG.out
            sr := HSR.out
            sk := fun h => by rcases hF _ h with h | h; exact HSK.out h; (simp only at h; omega)
            gr := HGR.out
            gk := fun z h1 h2 => by rcases hF z h2 with h | h; exact HGK.out z h1 h; (have := hgl z h1; omega)
            rk := fun z h1 h2 => by rcases hF z h2 with h | h; exact HRK.out z h1 h; (have := hrl z h1; omega)
            ok := by have := HOK2.out; rw [e0] at this; exact this }
  · exact K12.mono (fun z _ h => .inr h)
  · intro z hz
    rcases hz with h | h | h | h
    · exact .inl (.inl h)
    · exact .inl (.inr (.inl h))
    · exact .inl (.inr (.inr (.inl h)))
    · rcases hF z h with h | h
      · exact .inl (.inr (.inr (.inr h)))
      · exact .inr (by omega)
end Go.Proofs.YtfckgddodjmbdaaGreatDoor
