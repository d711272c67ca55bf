/- A lane's step walked (layer 37). -/
import Derived.Test.YtfckgddodjmbdaaGreatDoorMDeviceNobodyF42
import Derived.Test.YtfckgddodjmbdaaGreatDoorMDeviceNobodyF41
import Derived.Test.YtfckgddodjmbdaaGreatDoorMDeviceNobodyF0
import Derived.Test.YtfckgddodjmbdaaGreatDoorMDeviceNobodyF1
namespace Go.Proofs.YtfckgddodjmbdaaGreatDoor
set_option linter.unusedVariables false
set_option linter.unusedSimpArgs false
open Go Go.RowKit Go.Shelf
theorem LnM.box {w w' : World} {room : Nat} {l : Ln} {q' : List ByteArray} (h : LnM w room l) (k : Kp (fun b => b = l.xc) w w') (hb : BxM w' l.xb l.xc room q') : LnM w' room { l with q := q' } :=
  { top := h.top.kp k h.d2, po := h.po.kp k (fun b hb e => h.d5 (by rw [show b = l.xc from e] at hb; exact hb)) (fun b h1 h2 e => (h.d6 b h1 h2).2.2 e), bx := hb, nrf := h.nrf, d1 := h.d1, d2 := h.d2, d3 := h.d3, d4 := h.d4, d5 := h.d5, d6 := h.d6 }
theorem LsI.tab {w wr : World} {l : Ln} {room : Nat} {q' : List ByteArray} {f : PoF} {p : Po} (h : LsI w wr l room q' f p) (hT : Tab w) (hg : ¬ l.all 0) : Tab wr := hT.kp h.kp hg
theorem LsI.kpo {T : Nat → Prop} {w wr w2 : World} {l : Ln} {room : Nat} {q' : List ByteArray} {f : PoF} {p : Po} (h : LsI w wr l room q' f p) (hl : LnM w room { l with q := q' }) (k : Kp T wr w2) (h1 : ∀ x, T x → ¬ f.all x) (h3 : ∀ x, T x → w.heap.size ≤ x) : LsI w w2 l room q' f p := by
  have h2 : ∀ x, T x → ¬ l.far x := fun x e hx => by have := h3 x e; have : x < w.heap.size := hl.lt hx; omega
  refine ⟨h.ln.kp k (fun x hx e => ?_), ?_, h.nw, h.pb, h.lo, h.hi⟩
  · rcases hx with (e2 | e2 | e2 | e2) | ⟨e2, e3⟩
    · exact h2 x e (.inl (.inl e2))
    · exact h2 x e (.inl (.inr (.inl e2)))
    · exact h2 x e (.inl (.inr (.inr (.inl e2))))
    · exact h1 x e e2
    · exact h2 x e (.inr ⟨by rw [← h.lo]; exact e2, by rw [← h.hi]; exact e3⟩)
  · exact h.kp.then k (fun x hx e => by have := h3 x e; omega)
theorem LsI.from {w w1 wr : World} {l : Ln} {room : Nat} {q' : List ByteArray} {f : PoF} {p : Po} (h : LsI w1 wr l room q' f p) (k : Kp (fun b => b = l.xc) w w1) : LsI w wr l room q' f p :=
  ⟨h.ln, (k.mono (fun x _ e => .inr (.inr (.inl e)))).trans h.kp, fun b hb => by
    rcases h.nw b hb with e | e
    · exact .inl e
    · exact .inr (Nat.le_trans k.size e), h.pb, h.lo, h.hi⟩
structure LsJ (w1 wr : World) (l : Ln) (room : Nat) (q' : List ByteArray) (R : Po → Prop) : Prop where
  is : ∃ f p, LsI w1 wr l room q' f p ∧ R p
set_option maxRecDepth 100000 in
set_option maxHeartbeats 4000000 in
theorem lStep {w : World} {room batch : Nat} {l : Ln} (h : LnM w room l) (hT : Tab w) (hg : ¬ l.all 0) (hb : batch ≤ 64) (R : Nat → Po → Prop) (S Fin : List ByteArray → Po → Prop) (h0 : R 0 l.p)
    (hA : ∀ j x p, l.q[j]? = some x → R j p → ∀ W f, PoM W f p → Tab W → Calls Tryz.prog 5 #[.pointer (some ⟨f.pb, 0, none⟩), .string x] W fun e w' => ∃ (num : Nat) (p' : Po), e = .returned (.tuple #[.int .u32 num, .int .i64 0]) ∧ R (j + 1) p' ∧ PoTo W f p' w')
    (hRS : ∀ p, R (min batch l.q.length) p → S [] p)
    (hL : ∀ o p, S o p → o.length < batch → ∀ W f, PoM W f p → Calls Tryz.prog 6 #[.pointer (some ⟨f.pb, 0, none⟩)] W fun e w' => ∃ (y : ByteArray) (c : Int) (p' : Po), e = .returned (.tuple #[.string y, .int .i64 c]) ∧ PoTo W f p' w' ∧ (c = 0 ∧ S (o ++ [y]) p' ∨ ¬ c = 0 ∧ Fin o p'))
    (hSF : ∀ o p, S o p → o.length = batch → Fin o p) :
    Calls Tryz.prog 30 #[.pointer (some ⟨l.lb, 0, none⟩), .int .i64 batch] w fun e w' => ∃ v o f' p', e = .returned v ∧ Fin o p' ∧ o.length ≤ batch ∧ w'.ownsRow w.heap.size 9 1 v o.length (strs o) ∧ LsI w w' l room (l.q.drop batch) f' p' ∧ (∀ b, v.ownBlock = some b → ¬ f'.all b) := by
  have HS := Lib.hid (mSome h.bx batch (by omega))
  have l1 := h.top.cell 1 (v := .pointer (some ⟨l.xb, 0, none⟩)) rfl
  have H := Lib.hid h
  have HT := Lib.hid hT
  have HG := Lib.hid hg
  have HA := Lib.hid hA
  have HRS := Lib.hid hRS
  have HL := Lib.hid hL
  have HSF := Lib.hid hSF
  have HR0 := Lib.hid h0
  obtain ⟨lb, hlb⟩ : ∃ lb, l.lb = lb := ⟨_, rfl⟩
  obtain ⟨xb, hxb⟩ : ∃ xb, l.xb = xb := ⟨_, rfl⟩
  have HXB := Lib.hid hxb
  have HLB := Lib.hid hlb
  rw [hlb, hxb] at l1
  rw [hxb] at HS
  rw [hlb]
  clear h hT hg hA hRS hL hSF h0 hlb hxb
  refine calls_post ?_
  intro PP HP
  go_enter Tryz.func30, Tryz.ntmps30
  go_wp2_with fail
  refine (HS.out).mono ?_
  rintro e w1 ⟨v, rfl, hrow, hbx, hk1⟩
  rw [← HXB.out] at hbx
  have hl1 := H.out.box hk1 hbx
  have HJ0 : Hid (LsJ w1 w1 l room (l.q.drop batch) (R 0)) := Lib.hid ⟨l.f, l.p, ⟨hl1, Kp.refl _ _, Nw.refl _ _, rfl, rfl, rfl⟩, HR0.out⟩
  have HT1 : Hid (Tab w1) := Lib.hid (HT.out.kp hk1 (fun e => HG.out (.inr (.inr (.inl e)))))
  have HK1 := Lib.hid hk1
  have HL1 := Lib.hid hl1
  obtain ⟨nq, hnq⟩ : ∃ nq, min batch l.q.length = nq := ⟨_, rfl⟩
  rw [hnq] at hrow HRS
  have HNQ := Lib.hid hnq
  have hnb : nq ≤ 64 := by omega
  have HROW := Lib.hid hrow
  obtain ⟨vo, vc, rfl⟩ := own_shape hrow
  clear hrow hbx hk1 hl1 hnq HS l1 HR0 HT
  go_wp2_with fail
  go_loopw [19] (fun i0 wr => ∃ j : Nat, i0 = .int .i64 j ∧ j ≤ nq ∧ Hid (LsJ w1 wr l room (l.q.drop batch) (R j))) (fun i0 _ => nq - (intOf i0).toNat)
  case atStart => exact ⟨0, rfl, Nat.zero_le _, HJ0⟩
  case round =>
    clear HJ0
    obtain ⟨j, rfl, hj, HJ⟩ := hrel
    obtain ⟨wo, hwo⟩ : ∃ wo : World, wo = wr := ⟨_, rfl⟩
    subst hwo
    by_cases hlt : j < nq
    · have hji : (j : Int) < nq := by omega
      obtain ⟨g, cap, e1, hgg⟩ := own_shape1 HROW.out (by omega)
      injection e1 with e1 _ e3
      subst e1 e3
      obtain ⟨f, p, hI, hRj⟩ := HJ.out.is
      have hjq : j < l.q.length := by have := HNQ.out; omega
      have hc := own_cell HROW.out j (u := .string l.q[j]) (by
        have hjt : j < (l.q.take batch).length := by rw [List.length_take]; have := HNQ.out; omega
        rw [strs_get _ _ hjt, List.getElem_take])
      have hfg : ¬ l.all g := fun e => by have := H.out.lt (.inl e); omega
      have hc2 := hI.kp.cell hc hfg
      have hlt2 := hI.ln.top.cell 0 (v := .pointer (some ⟨f.pb, 0, none⟩)) rfl
      have HAR := Lib.hid (HA.out j l.q[j] p (List.getElem?_eq_getElem hjq) hRj wo f hI.ln.po (hI.tab HT1.out HG.out))
      have hlt3 : wo.cell? ⟨lb, 0, none⟩ = some (.pointer (some ⟨f.pb, 0, none⟩)) := by rw [← HLB.out]; exact hlt2
      have HI := Lib.hid hI
      obtain ⟨x, hx⟩ : ∃ x, l.q[j] = x := ⟨_, rfl⟩
      obtain ⟨pb, hpb⟩ : ∃ pb, f.pb = pb := ⟨_, rfl⟩
      rw [hx] at hc2 HAR
      rw [hpb] at hlt3 HAR
      clear hI hRj hc hfg hlt2 hx hpb HJ hjq hgg
      go_wp2_with fail
      refine (HAR.out).mono ?_
      rintro e w2 ⟨num, p', rfl, hR', hto⟩
      obtain ⟨f', hI', _, _⟩ := HI.out.to hto
      have HJn : Hid (LsJ w1 w2 l room (l.q.drop batch) (R (j + 1))) := Lib.hid ⟨f', p', hI', hR'⟩
      clear hto hI' hR' HAR HI hc2 hlt3
      go_wp2_with fail
      go_roundw
      case rel => exact ⟨j + 1, by go_num, by omega, HJn⟩
      case measure => simp [intOf]; omega
    · have hjn : j = nq := by omega
      have hji : ¬ (j : Int) < nq := by omega
      have HJ2 : Hid (LsJ w1 wo l room (l.q.drop batch) (S [])) := by
        obtain ⟨f, p, hI, hRj⟩ := HJ.out.is
        exact Lib.hid ⟨f, p, hI, HRS.out p (by rw [← hjn]; exact hRj)⟩
      clear HJ HROW HRS HA
      go_wp2_with fail
      have HO0 : Hid (wo.ownsRow w1.heap.size 9 1 (.slice none 0 0) 0 (strs [])) := Lib.hid ⟨by simp [strs], .inl ⟨rfl, rfl⟩⟩
      go_loopw [48, 9] (fun i0 v0 wr => ∃ (k : Nat) (o : List ByteArray), i0 = .int .i64 k ∧ k ≤ batch ∧ o.length = k ∧ Hid (wr.ownsRow w1.heap.size 9 1 v0 k (strs o)) ∧ Hid (∃ f p, LsI w1 wr l room (l.q.drop batch) f p ∧ S o p ∧ ∀ b, v0.ownBlock = some b → ¬ f.all b)) (fun i0 _ _ => batch - (intOf i0).toNat)
      case atStart =>
        obtain ⟨f, p, hI, hS⟩ := HJ2.out.is
        exact ⟨0, [], rfl, Nat.zero_le _, rfl, HO0, Lib.hid ⟨f, p, hI, hS, fun b e => by cases e⟩⟩
      case round =>
        clear HO0 HJ2 hji
        obtain ⟨k, o, rfl, hk, hol, HO, HJ⟩ := hrel
        obtain ⟨wo, hwo⟩ : ∃ wo : World, wo = wr := ⟨_, rfl⟩
        subst hwo
        obtain ⟨ao, ac, rfl⟩ := own_shape HO.out
        by_cases hlt : k < batch
        · have hki : (k : Int) < batch := by omega
          obtain ⟨f, p, hI, hS, hnf⟩ := HJ.out
          have hlt2 := hI.ln.top.cell 0 (v := .pointer (some ⟨f.pb, 0, none⟩)) rfl
          have hlt3 : wo.cell? ⟨lb, 0, none⟩ = some (.pointer (some ⟨f.pb, 0, none⟩)) := by rw [← HLB.out]; exact hlt2
          have HLV := Lib.hid (HL.out o p hS (by omega) wo f hI.ln.po)
          have HI := Lib.hid hI
          have HNF := Lib.hid hnf
          obtain ⟨pb, hpb⟩ : ∃ pb, f.pb = pb := ⟨_, rfl⟩
          rw [hpb] at hlt3 HLV
          clear hI hS hnf hlt2 hpb HJ
          go_wp2_with fail
          refine (HLV.out).mono ?_
          rintro e w2 ⟨y, c, p', rfl, hto, hcase⟩
          obtain ⟨f', hI', hk2, hn2⟩ := HI.out.to hto
          have HO2 := Lib.hid (own_kp HO.out hk2 (fun b e => HNF.out b e))
          have HNF2 : Hid (∀ b, (Value.slice ao k ac).ownBlock = some b → ¬ f'.all b) := Lib.hid fun b e hf => by
            rcases hn2 b hf with e2 | e2
            · exact HNF.out b e e2
            · have := (own_block HO.out e).2; omega
          have HI2 := Lib.hid hI'
          have hw12 : w1.heap.size ≤ w2.heap.size := hI'.kp.size
          clear hto hI' hk2 hn2 HLV HI HNF hlt3
          rcases hcase with ⟨rfl, hS'⟩ | ⟨hc, hF⟩
          · have HS2 := Lib.hid hS'
            clear hS'
            go_wp2_with (at_builtin; refine wp_app1_at tStr (.tmp 60) (.tmp 62) rfl rfl w1.heap.size (HO2.out.alloc _) [.string y] rfl rfl rfl (heap_new _ _) rfl (by omega) (by omega) (by simp; omega) ?_)
            intro g3 cap3 w3 hown3 hgrow3 hgg
            have hk23 : Kp (fun x => (Value.slice ao k ac).ownBlock = some x) _ w3 := (Kp.refl _ _).grown hgrow3 (fun b e => .inl e)
            have hlt2 := fun x (hx : f'.all x) => HI2.out.ln.po.lt hx
            have hi3 := (HI2.out.kpo HL1.out ((Kp.refl none' w2).alloc _) (fun _ h => h.elim) (fun _ h => h.elim)).kpo HL1.out hk23 (fun x e => HNF2.out x e) (fun x e => (own_block HO2.out e).1)
            have hnf3 : ∀ b, (Value.slice (some ⟨g3, 0, none⟩) (k + 1) cap3).ownBlock = some b → ¬ f'.all b := fun b e hf => by
              have e2 : g3 = b := by simpa [Value.ownBlock] using e
              subst e2
              rcases hgg with e3 | e3
              · exact HNF2.out _ e3 hf
              · have := hlt2 _ hf
                omega
            have HO3 : Hid (w3.ownsRow w1.heap.size 9 1 (.slice (some ⟨g3, 0, none⟩) (k + 1) cap3) (k + 1) (strs (o ++ [y]))) := by rw [strs_snoc]; exact hown3
            have HJ3 : Hid (∃ f p, LsI w1 w3 l room (l.q.drop batch) f p ∧ S (o ++ [y]) p ∧ ∀ b, (Value.slice (some ⟨g3, 0, none⟩) (k + 1) cap3).ownBlock = some b → ¬ f.all b) := Lib.hid ⟨f', p', hi3, HS2.out, hnf3⟩
            clear hown3 hgrow3 hgg hk23 hlt2 hi3 hnf3 HO2 HI2 HNF2 HS2 HO
            go_wp2_with fail
            go_roundw
            case rel => exact ⟨k + 1, o ++ [y], by go_num, by omega, by simp [hol], HO3, HJ3⟩
            case measure => simp [intOf]; omega
          · have HFIN := Lib.hid (HP.out _ _ ⟨_, o, f', p', rfl, hF, by omega, own_base (by rw [hol]; exact HO2.out) HK1.out.size, HI2.out.from HK1.out, HNF2.out⟩)
            clear HP HO HO2 HI2 HNF2 hF
            go_wp2_with fail
            exact HFIN.out
        · have hkb : k = batch := by omega
          subst hkb
          have hki : ¬ (k : Int) < k := by omega
          obtain ⟨f, p, hI, hS, hnf⟩ := HJ.out
          have HFIN := Lib.hid (HP.out _ _ ⟨_, o, f, p, rfl, HSF.out o p hS (by omega), by omega, own_base (by rw [hol]; exact HO.out) HK1.out.size, hI.from HK1.out, hnf⟩)
          clear HP HO hI hS hnf HJ
          go_wp2_with fail
          exact HFIN.out
end Go.Proofs.YtfckgddodjmbdaaGreatDoor

namespace Go.Proofs.YtfckgddodjmbdaaGreatDoor
set_option linter.unusedVariables false
set_option linter.unusedSimpArgs false
open Go Go.RowKit Go.Shelf Go.Maps
def hdD : HdR := ⟨0, 0, 9, 0, 167837701, 0, 0⟩
def datD : List UInt8 := putL hdD []
def datE : List UInt8 := hopL datD
theorem d_take : takeE datD = 0 := by decide +kernel
theorem d_dst : (takeH datD).d = 167837701 := by decide +kernel
theorem d_flow : flowN rlS (takeH datD).n = some 1 := by decide +kernel
theorem d_hop : hopE datD = 0 := by decide +kernel
theorem d_len : datD.length = 28 := by decide +kernel
theorem d_may : mayG poS.s.g 1 28 = 0 := by decide +kernel
theorem d_deq1 : (deqS (enqS poS.s 1 1 28).2).1[1]? = some (.int .i64 0) := by kernel_rfl
theorem d_deq3 : (deqS (enqS poS.s 1 1 28).2).1[3]? = some (.int .u32 1) := by kernel_rfl
theorem d_size : (tx datD).size = 28 := by rw [tx_size, d_len]
theorem s_no1 : (deqS poS.s).1[1]? = some (.int .i64 18) := by kernel_rfl
theorem s_no2 : (deqS poS.s).2 = poS.s := by kernel_rfl
theorem d_no1 : (deqS (deqS (enqS poS.s 1 1 28).2).2).1[1]? = some (.int .i64 18) := by kernel_rfl
theorem d_no2 : (deqS (deqS (enqS poS.s 1 1 28).2).2).2 = (deqS (enqS poS.s 1 1 28).2).2 := by kernel_rfl
theorem s_bk : bkN poS.s.bk < 9223372036854775807 := by decide +kernel
theorem d_bk1 : bkN (enqS poS.s 1 1 28).2.bk < 9223372036854775807 := by decide +kernel
theorem d_bk2 : bkN (deqS (enqS poS.s 1 1 28).2).2.bk < 9223372036854775807 := by decide +kernel
def poD1 : Po := { poS with m := (colP poS.m 28).1, s := (enqS poS.s 1 1 28).2, num := 1, wt := fun k => if k = 1 then datE else poS.wt k }
def poD2 : Po := { poD1 with s := (deqS poD1.s).2, wt := fun k => if k = 1 then [] else poD1.wt k }
theorem arrD {w : World} {f : PoF} (h : PoM w f poS) (hT : Tab w) :
    Calls Tryz.prog 5 #[.pointer (some ⟨f.pb, 0, none⟩), .string (tx datD)] w fun e w' => e = .returned (.tuple #[.int .u32 1, .int .i64 0]) ∧ PoTo w f poD1 w' := by
  have := pArrGYes h hT (tx datD) (by rw [d_size]; decide) (by rw [bl_tx]; exact d_take) 1 (by rw [bl_tx]; exact d_flow) (by rw [bl_tx]; exact d_hop) (pCol0 poS _ rfl) rfl (by show 0 < _; decide) (by show 0 + 1 < _; decide) (by rw [d_size]; exact d_may)
  rw [d_size, bl_tx] at this
  exact this
theorem leaD {w : World} {f : PoF} (h : PoM w f poD1) :
    Calls Tryz.prog 6 #[.pointer (some ⟨f.pb, 0, none⟩)] w fun e w' => e = .returned (.tuple #[.string (tx datE), .int .i64 0]) ∧ PoTo w f poD2 w' :=
  pLeaYes h 1 (by decide) d_deq1 d_deq3 d_bk1
theorem step0 {w : World} {l : Ln} (h : LnM w 2 l) (hp : l.p = poS) (hq : l.q = []) (hT : Tab w) (hg : ¬ l.all 0) :
    Calls Tryz.prog 30 #[.pointer (some ⟨l.lb, 0, none⟩), .int .i64 ((2 : Nat) : Int)] w fun e w' => ∃ v o f' p', e = .returned v ∧ o = [] ∧ o.length ≤ 2 ∧ w'.ownsRow w.heap.size 9 1 v o.length (strs o) ∧ LsI w w' l 2 (l.q.drop 2) f' p' ∧ (∀ b, v.ownBlock = some b → ¬ f'.all b) :=
  lStep h hT hg (by decide) (fun _ p => p = poS) (fun o p => o = [] ∧ p = poS) (fun o _ => o = []) hp
    (fun j x p hx => by rw [hq] at hx; cases hx) (fun p hp => ⟨rfl, hp⟩)
    (fun o p hS _ W f hM => by
      obtain ⟨rfl, rfl⟩ := hS
      refine (pLeaNo hM 18 (by decide) s_no1 s_no2 s_bk).mono ?_
      rintro e w' ⟨rfl, h2⟩
      exact ⟨_, 18, poS, rfl, h2, .inr ⟨by decide, rfl⟩⟩)
    (fun o p hS hl => by obtain ⟨rfl, _⟩ := hS; cases hl)
theorem step1 {w : World} {l : Ln} (h : LnM w 2 l) (hp : l.p = poS) (hq : l.q = [tx datD]) (hT : Tab w) (hg : ¬ l.all 0) :
    Calls Tryz.prog 30 #[.pointer (some ⟨l.lb, 0, none⟩), .int .i64 ((2 : Nat) : Int)] w fun e w' => ∃ v o f' p', e = .returned v ∧ o = [tx datE] ∧ o.length ≤ 2 ∧ w'.ownsRow w.heap.size 9 1 v o.length (strs o) ∧ LsI w w' l 2 (l.q.drop 2) f' p' ∧ (∀ b, v.ownBlock = some b → ¬ f'.all b) :=
  lStep h hT hg (by decide) (fun j p => (j = 0 ∧ p = poS) ∨ (j = 1 ∧ p = poD1)) (fun o p => (o = [] ∧ p = poD1) ∨ (o = [tx datE] ∧ p = poD2)) (fun o _ => o = [tx datE]) (.inl ⟨rfl, hp⟩)
    (fun j x p hx hR W f hM hT2 => by
      rw [hq] at hx
      rcases hR with ⟨rfl, rfl⟩ | ⟨rfl, rfl⟩
      · obtain rfl : tx datD = x := by simpa using hx
        refine (arrD hM hT2).mono ?_
        rintro e w' ⟨rfl, h2⟩
        exact ⟨1, poD1, rfl, .inr ⟨rfl, rfl⟩, h2⟩
      · simp at hx)
    (fun p hR => by
      rw [hq] at hR
      rcases hR with ⟨h1, _⟩ | ⟨_, rfl⟩
      · simp at h1
      · exact .inl ⟨rfl, rfl⟩)
    (fun o p hS _ W f hM => by
      rcases hS with ⟨rfl, rfl⟩ | ⟨rfl, rfl⟩
      · refine (leaD hM).mono ?_
        rintro e w' ⟨rfl, h2⟩
        exact ⟨_, 0, poD2, rfl, h2, .inl ⟨rfl, .inr ⟨rfl, rfl⟩⟩⟩
      · refine (pLeaNo hM 18 (by decide) d_no1 d_no2 d_bk2).mono ?_
        rintro e w' ⟨rfl, h2⟩
        exact ⟨_, 18, poD2, rfl, h2, .inr ⟨by decide, rfl⟩⟩)
    (fun o p hS hl => by
      rcases hS with ⟨rfl, _⟩ | ⟨rfl, _⟩
      · cases hl
      · rfl)
set_option maxRecDepth 100000 in
set_option maxHeartbeats 1000000 in
theorem bytesD (w : World) : Calls Tryz.prog 35 #[.agg #[.int .u8 0, .int .u8 0, .int .u16 0, .int .u8 9, .int .u32 0, .int .u32 167837701, .int .u16 0, .int .u16 0, .string ⟨#[]⟩, .int .u64 0]] w fun e w' => e = .returned (.string (tx datD)) ∧ Kp none' w w' := by
  have hpu := fun W => hPutOk hdD ⟨⟨by decide, by decide, by decide⟩, by decide, by decide, by decide, by decide⟩ (by decide) ⟨#[]⟩ (by decide) W
  have HPU : Hid (∀ W, Calls Tryz.prog 27 #[.agg #[.int .u8 0, .int .u16 0, .int .u8 9, .int .u32 0, .int .u32 167837701, .int .u16 0, .int .u16 0], .string ⟨#[]⟩] W fun e w' => e = .returned (.tuple #[.string (tx datD), .int .i64 0]) ∧ Kp none' W w') := Lib.hid hpu
  have HB0 := Lib.hid (Blk.new w [.int .u8 0, .int .u8 0, .int .u16 0, .int .u8 9, .int .u32 0, .int .u32 167837701, .int .u16 0, .int .u16 0, .string ⟨#[]⟩, .int .u64 0] 117)
  have HK0 := Lib.hid ((Kp.refl none' w).alloc (.cells #[.int .u8 0, .int .u8 0, .int .u16 0, .int .u8 9, .int .u32 0, .int .u32 167837701, .int .u16 0, .int .u16 0, .string ⟨#[]⟩, .int .u64 0] 117))
  clear hpu
  go_enter Tryz.func35, Tryz.ntmps35
  go_wp2_with fail
  refine (HPU.out _).mono ?_
  rintro e w1 ⟨rfl, hk1⟩
  have HB1 := Lib.hid (HB0.out.kp hk1 (fun x => x))
  have c0 := HB1.out.cell 0 rfl
  have HK1 := Lib.hid (HK0.out.trans hk1)
  clear hk1 HB0 HK0
  go_wp2_with fail
  go_ret
  exact ⟨rfl, HK1.out⟩
end Go.Proofs.YtfckgddodjmbdaaGreatDoor

namespace Go.Proofs.YtfckgddodjmbdaaGreatDoor
set_option linter.unusedVariables false
set_option linter.unusedSimpArgs false
open Go Go.RowKit Go.Shelf
theorem dw_step {w wo wa w7 : World} {d : DvR} {cd db batch room g cap : Nat} {cc : List Value} {rts : List Rt} {st : List (Po × List ByteArray × List Nat)} (h : DwI w wo cd cc db batch room rts st d) (l : Ln) (kA : Kp none' wo wa) (hl : LnM wa room l) (hlo : ∀ x, l.far x → wo.heap.size ≤ x)
    (hg : wa.grownBy w7 d.v.ownBlock) (hown : w7.ownsRow d.thi 94 1 (.slice (some ⟨g, 0, none⟩) (d.ls.length + 1) cap) (d.ls.length + 1) (d.ls.flatMap lnP ++ lnP l)) (hgg : d.v.ownBlock = some g ∨ g = wa.heap.size) :
    DwI w (w7.setCell ⟨db, 0, none⟩ (.slice (some ⟨g, 0, none⟩) (d.ls.length + 1) cap)) cd cc db batch room rts (st ++ [stL l]) { d with v := .slice (some ⟨g, 0, none⟩) (d.ls.length + 1) cap, ls := d.ls ++ [l] } := by
  obtain rfl := h.db_
  obtain rfl := h.ro
  have hD := h.dv
  have hlh := hD.lh
  have hlo2 := hD.lo
  have hsz := hD.hsz
  have hwd := h.wd
  have hcl := h.cl
  have hsA := kA.size
  have hob : ∀ b, d.v.ownBlock = some b → d.thi ≤ b ∧ b < wo.heap.size := fun b e => own_block hD.row e
  have hgt : d.thi ≤ g := (own_block hown (b := g) rfl).1
  have k7 : Kp (fun x => d.v.ownBlock = some x) wa w7 := (Kp.refl _ _).grown hg (fun b e => .inl e)
  have k8 : Kp (fun x => x = d.db) w7 (w7.setCell ⟨d.db, 0, none⟩ (.slice (some ⟨g, 0, none⟩) (d.ls.length + 1) cap)) := kp_at _ _ _ _
  have hs7 := k7.size
  have hs8 := k8.size
  have hnew : ∀ x, l.far x → d.v.ownBlock ≠ some x ∧ x ≠ d.db ∧ d.thi ≤ x ∧ g ≠ x := fun x hx => by
    have h1 := hlo x hx
    have h2 := hl.lt hx
    refine ⟨fun e => by have := (hob x e).2; omega, by omega, by omega, ?_⟩
    rcases hgg with e | e
    · have := (hob g e).2; omega
    · omega
  have hold : ∀ m ∈ d.ls, ∀ x, m.far x → d.v.ownBlock ≠ some x ∧ x ≠ d.db ∧ d.thi ≤ x ∧ g ≠ x ∧ x < wo.heap.size := fun m hm x hx => by
    have h1 := hD.at_ m hm x hx
    have h2 := (hD.ln m hm).lt hx
    refine ⟨h1.2, by omega, h1.1, ?_, h2⟩
    rcases hgg with e | e
    · intro e2; subst e2; exact h1.2 e
    · omega
  refine ⟨⟨?_, ?_, ?_, hlo2, hD.hi, hD.his, by show d.thi ≤ _; omega, ?_, ?_, ?_⟩, ?_, ?_, hcl, rfl, h.ba, rfl, h.pu, ?_, hwd⟩
  · exact ((hD.top.kp kA (fun x => x)).kp k7 (fun e => by have := (hob _ e).1; omega)).set 0 _
  · have := own_kp hown k8 (fun b e e2 => by have : g = b := by simpa [Value.ownBlock] using e
                                             omega)
    simpa using this
  · exact tabKp (tabKp (hD.tab.old kA) k7 (fun e => by have := (hob d.tb e).1; have := hD.hi; omega) (fun b hb e => by have := (hob _ e).1; have := hD.his b hb; omega)) k8 (fun e => by have e2 : d.tb = d.db := e; have := hD.tab.tlow; omega) (fun b hb e => by have := hD.tab.low b hb; omega)
  · intro m hm
    rcases List.mem_append.1 hm with hm | hm
    · exact (((hD.ln m hm).old kA).kp k7 (fun x hx => (hold m hm x hx).1)).kp k8 (fun x hx => (hold m hm x hx).2.1)
    · rw [List.mem_singleton] at hm
      subst hm
      exact (hl.kp k7 (fun x hx => (hnew x hx).1)).kp k8 (fun x hx => (hnew x hx).2.1)
  · intro m hm x hx
    rcases List.mem_append.1 hm with hm | hm
    · exact ⟨(hold m hm x hx).2.2.1, fun e => (hold m hm x hx).2.2.2.1 (by simpa [Value.ownBlock] using e)⟩
    · rw [List.mem_singleton] at hm
      subst hm
      exact ⟨(hnew x hx).2.2.1, fun e => (hnew x hx).2.2.2 (by simpa [Value.ownBlock] using e)⟩
  · refine List.pairwise_append.2 ⟨hD.sep, List.pairwise_singleton _ _, fun a ha b hb x hx hy => ?_⟩
    rw [List.mem_singleton] at hb
    subst hb
    have := (hold a ha x hx).2.2.2.2
    have := hlo x hy
    omega
  · exact ((h.kp.trans kA).grown hg (fun b e => .inr (by have := (hob b e).1; omega))).set (.inr hwd) _
  · exact ((h.cf.kp kA (fun x => x)).kp k7 (fun e => by have := (hob _ e).1; omega)).kp k8 (by omega)
  · rw [List.map_append, h.st_]; rfl

theorem heap_newD (w : World) (o : Obj) {n : Nat} (h : n = w.heap.size) : (w.alloc o).heap[n]? = some o := by subst h; exact heap_new w o
def laneZ (pb xb : Nat) : List Value := .pointer (some ⟨pb, 0, none⟩) :: .pointer (some ⟨xb, 0, none⟩) :: List.replicate 32 (.int .u64 0)
theorem laneBuild (pb xb : Nat) (W : World) : (Instr.build 93 #[(0, .pointer (some ⟨pb, 0, none⟩)), (1, .pointer (some ⟨xb, 0, none⟩))]).run Tryz.prog W = .ok (.agg (laneZ pb xb).toArray) W := by kernel_rfl
theorem laneSlice (b : Nat) (W : World) : (Instr.buildSlice 83 1 #[(0, .pointer (some ⟨b, 0, none⟩))]).run Tryz.prog W = .ok (.slice (some ⟨W.heap.size, 0, none⟩) 1 1) (W.alloc (.cells #[.pointer (some ⟨b, 0, none⟩)] 94)) := by kernel_rfl
set_option maxRecDepth 100000 in
set_option maxHeartbeats 4000000 in
theorem dNew (ps : List PtC) (rts : List Rt) (room batch : Nat) (w : World) (hp : PtsOk w ps) (h1 : 1 ≤ ps.length) (h8 : ps.length ≤ 8) (hr : RtsOk rts ps.length) (hro : 1 ≤ room ∧ room ≤ 4096) (hba : 1 ≤ batch ∧ batch ≤ 64) (pv rv : Value) (hpv : Sl w pv ps.length 16 (ps.flatMap enPt)) (hrv : Sl w rv rts.length 3 (rts.flatMap enRt)) (PO : PtC → Po)
    (hnew : ∀ q ∈ ps, ∀ W, Kp none' w W → Calls Tryz.prog 25 #[.agg (enPt q).toArray] W fun e w' => ∃ f, e = .returned (.tuple #[.pointer (some ⟨f.pb, 0, none⟩), .int .i64 0]) ∧ PoM w' f (PO q) ∧ (∀ b, f.all b → W.heap.size ≤ b) ∧ W.heap.size ≤ f.lo ∧ Kp none' W w') :
    Calls Tryz.prog 33 #[.agg #[pv, rv, .int .i64 room, .int .i64 batch]] w fun e w' => ∃ d : DvR, e = .returned (.tuple #[.pointer (some ⟨d.db, 0, none⟩), .int .i64 0]) ∧ DvM w' d ∧ PutsOf rts d.T ∧ d.room = room ∧ d.batch = batch ∧ d.ls.map stL = ps.map (fun q => (PO q, [], zRf)) ∧ w.heap.size ≤ d.db ∧ Kp none' w w' := by
  have HCK := Lib.hid (fun W (k : Kp none' w W) => dCheck ps rts room batch W (hp.old k) h1 h8 hr hro hba pv rv (hpv.old k) (hrv.old k))
  obtain ⟨ap, cp, rfl⟩ : ∃ ap cp, pv = .slice ap ps.length cp := by obtain ⟨ao, cap, rfl, _⟩ := hpv.is; exact ⟨_, _, rfl⟩
  have HPV := Lib.hid hpv
  have HPO := Lib.hid hp
  have HNEW := Lib.hid hnew
  have HRO := Lib.hid (fun W (k : Kp none' w W) => dRoutes rts ps.length room batch hr ap cp rv W (hrv.old k))
  obtain ⟨ar, cr, rfl⟩ : ∃ ar cr, rv = .slice ar rts.length cr := by obtain ⟨ao, cap, rfl, _⟩ := hrv.is; exact ⟨_, _, rfl⟩
  have HD0 := Lib.hid (Blk.new w [.slice ap ps.length cp, .slice ar rts.length cr, .int .i64 room, .int .i64 batch] 113)
  have HK0 := Lib.hid ((Kp.refl none' w).alloc (.cells #[.slice ap ps.length cp, .slice ar rts.length cr, .int .i64 room, .int .i64 batch] 113))
  have HRM := Lib.hid hro
  clear hpv hrv hp hr hro hba h1 hnew
  refine calls_post ?_
  intro PP HP
  go_enter Tryz.func33, Tryz.ntmps33
  go_wp2_with fail
  refine (HCK.out _ HK0.out).mono ?_
  rintro e w1 ⟨rfl, hk1⟩
  have HK1 := Lib.hid (HK0.out.trans hk1)
  have HD1 := Lib.hid (HD0.out.kp hk1 (fun x => x))
  have c0 := HD1.out.cell 0 rfl
  have c1 := HD1.out.cell 1 rfl
  have c2 := HD1.out.cell 2 rfl
  have c3 := HD1.out.cell 3 rfl
  clear hk1 HK0 HD0 HCK
  go_upto_region 5 with fail
  have hn2 := Blk.new w1 [.slice none 0 0, .pointer none, .int .i64 batch] 86
  have hk2 : Kp none' w1 (w1.alloc (.cells #[.slice none 0 0, .pointer none, .int .i64 batch] 86)) := (Kp.refl none' w1).alloc _
  have hsz2 : (w1.alloc (.cells #[.slice none 0 0, .pointer none, .int .i64 batch] 86)).heap.size = w1.heap.size + 1 := World.size_alloc _ _
  obtain ⟨W2, hW2⟩ : ∃ W2, w1.alloc (.cells #[.slice none 0 0, .pointer none, .int .i64 batch] 86) = W2 := ⟨_, rfl⟩
  obtain ⟨db, hdb⟩ : ∃ db, w1.heap.size = db := ⟨_, rfl⟩
  have hwd := HK1.out.size
  have hcl := HD1.out.lt
  rw [hW2] at hk2 hsz2
  have hn2' : Blk W2 db [.slice none 0 0, .pointer none, .int .i64 batch] 86 := by rw [← hW2, ← hdb]; exact hn2
  rw [hdb] at hwd hcl hsz2
  rw [hW2, hdb]
  have HN2 := Lib.hid hn2'
  have HK2 := Lib.hid (HK1.out.trans hk2)
  have HD2 := Lib.hid (HD1.out.kp hk2 (fun x => x))
  have HSZ := Lib.hid hsz2
  have HWD := Lib.hid hwd
  have HCL := Lib.hid hcl
  clear c0 c1 c2 c3 hn2 hk2 hsz2 hW2 hdb hwd hcl hn2' HK1 HD1
  have c0 := HD2.out.cell 0 rfl
  have c1 := HD2.out.cell 1 rfl
  have c2 := HD2.out.cell 2 rfl
  have c3 := HD2.out.cell 3 rfl
  go_wp2_with fail
  refine (HRO.out _ HK2.out).mono ?_
  rintro e w3 ⟨tb, T, n, rfl, hT, hpu, hk3⟩
  have HT := Lib.hid hT
  have HPU := Lib.hid hpu
  have HN3 := Lib.hid (HN2.out.kp hk3 (fun x => x))
  have HD3 := Lib.hid (HD2.out.kp hk3 (fun x => x))
  have HK3 := Lib.hid (HK2.out.trans hk3)
  have HK23 := Lib.hid hk3.size
  have p1 := HN3.out.cell 1 rfl
  have z1 := HN3.out.fz 1
  clear hT hpu hk3 HN2 HD2 HK2 HRO c0 c1 c2 c3
  go_upto_region 6 with fail
  have ks : Kp (fun x => x = db) w3 (w3.setCell ⟨db, 1, none⟩ (.pointer (some ⟨tb, 0, none⟩))) := kp_at _ _ _ _
  have hcl := HCL.out
  have hsz := HSZ.out
  have h23 := HK23.out
  have hss : w3.heap.size ≤ (w3.setCell ⟨db, 1, none⟩ (.pointer (some ⟨tb, 0, none⟩))).heap.size := ks.size
  have HI0 : Hid (DwI w (w3.setCell ⟨db, 1, none⟩ (.pointer (some ⟨tb, 0, none⟩))) w.heap.size [.slice ap ps.length cp, .slice ar rts.length cr, .int .i64 room, .int .i64 batch] db batch room rts [] ⟨db, tb, W2.heap.size, w3.heap.size, n, batch, room, .slice none 0 0, T, []⟩) := Lib.hid
    ⟨⟨HN3.out.set 1 _, ⟨rfl, .inl ⟨rfl, rfl⟩⟩, tabKp HT.out ks (fun e => by have e2 : tb = db := e; have := HT.out.tlow; omega) (fun b hb e => by have e2 : b = db := e; have := HT.out.low b hb; omega), by show db < W2.heap.size; omega, HT.out.blk.lt, HT.out.mem.lt, hss, (fun l hl => (by cases hl)), (fun l hl => (by cases hl)), List.Pairwise.nil⟩,
      HK3.out.set (.inr HWD.out) _, HD3.out.kp ks (by show ¬ w.heap.size = db; omega), hcl, rfl, rfl, rfl, HPU.out, rfl, HWD.out⟩
  obtain ⟨W4, hW4⟩ : ∃ W4, w3.setCell ⟨db, 1, none⟩ (.pointer (some ⟨tb, 0, none⟩)) = W4 := ⟨_, rfl⟩
  rw [hW4] at HI0 ⊢
  have HD4 := Lib.hid HI0.out.cf
  have c0 := HD4.out.cell 0 rfl
  clear ks hcl hsz h23 hss hW4 p1 z1 HN3 HD3 HK3 HK23 HT HPU HD4
  have hbu := laneBuild
  go_wp2_with fail
  go_loopw [32] (fun v32 wr => ∃ (j : Nat) (d : DvR), v32 = .int .i64 j ∧ j ≤ ps.length ∧ Hid (DwI w wr w.heap.size [.slice ap ps.length cp, .slice ar rts.length cr, .int .i64 room, .int .i64 batch] db batch room rts ((ps.take j).map (fun q => (PO q, [], zRf))) d)) (fun i0 _ => ps.length - (intOf i0).toNat)
  case atStart => exact ⟨0, _, rfl, Nat.zero_le _, HI0⟩
  case round =>
    clear HI0 c0
    obtain ⟨j, d, rfl, hj, HI⟩ := hrel
    obtain ⟨wo, hwo⟩ : ∃ wo : World, wo = wr := ⟨_, rfl⟩
    subst hwo
    by_cases hlt : j < ps.length
    · obtain ⟨g, off, cap', e1, hc⟩ := (HPV.out.old HI.out.kp).at enPt_len (by decide) j hlt
      injection e1 with e1 _ e3
      subst e1 e3
      have hji : (j : Int) < ps.length := by omega
      have hmem := List.getElem_mem hlt
      obtain ⟨q, hqq⟩ : ∃ q, ps[j] = q := ⟨_, rfl⟩
      have HTK : Hid (ps.take (j + 1) = ps.take j ++ [q]) := Lib.hid (by rw [List.take_succ_eq_append_getElem hlt, hqq])
      rw [hqq] at hc hmem
      have hq2 := (HPO.out.old HI.out.kp).mem q hmem
      have HQ1 := Lib.hid (enPt_one q hq2.1.one hq2.2.one)
      have HCH := Lib.hid (HNEW.out q hmem)
      have HCQ : Hid (wo.rangeAt g (off + j * 16) (enPt q)) := Lib.hid hc
      have HZ := Lib.hid (Blk.new wo (enPt ptZ) 79)
      have HZK := Lib.hid ((Kp.refl none' wo).alloc (.cells (enPt ptZ).toArray 79))
      clear hmem hqq hq2 hc
      go_wp2_with (first
        | (refine wpList_load_mid rfl 79 (.tmp 34) rfl g (off + j * 16) rfl (enPt q) _ HCQ.out Tryz.underlying79 rfl infoPt ?_)
        | (refine wp_st_blk rfl 79 (.tmp 7) (.tmp 35) rfl HZ.out (enPt q) rfl rfl rfl infoPt HQ1.out ?_; intro W4 hb4 hk4; have HB4 := Lib.hid hb4; have HK4 : Hid (Kp none' wo W4) := Lib.hid (HZK.out.then hk4 (fun i h1 h2 => by omega)); clear hb4 hk4 HZ HZK HCQ)
        | (refine wpList_load_mid rfl 79 (.tmp 7) rfl wo.heap.size 0 rfl (enPt q) _ HB4.out.range Tryz.underlying79 rfl infoPt ?_))
      refine (HCH.out _ (HI.out.kp.trans HK4.out)).mono ?_
      rintro e w5 ⟨f, rfl, hpo, hfa, hflo, hk5⟩
      have HPO5 := Lib.hid hpo
      have H5L := Lib.hid (fun b (hb : f.all b) => hpo.lt hb)
      have H5H := Lib.hid hpo.hi
      have HFA := Lib.hid hfa
      have HFL := Lib.hid hflo
      have HK5 := Lib.hid (HK4.out.trans hk5)
      have H45 := Lib.hid hk5.size
      have H4 := Lib.hid HK4.out.size
      have HC5 := Lib.hid (HI.out.cf.kp HK5.out (fun x => x))
      have c2 := HC5.out.cell 2 rfl
      obtain ⟨pb, hpb⟩ : ∃ pb, f.pb = pb := ⟨_, rfl⟩
      have HPB := Lib.hid hpb
      rw [hpb]
      clear hpo hfa hflo hk5 HCH HQ1 HB4 HC5 hpb
      go_wp2_with fail
      refine (mNew room HRM.out.1 HRM.out.2 _).mono ?_
      rintro e w6 ⟨rfl, hbx, hk6⟩
      have HBX := Lib.hid hbx
      have HK6 := Lib.hid (HK5.out.trans hk6)
      have HPO6 := Lib.hid (HPO5.out.old hk6)
      have H56 := Lib.hid hk6.size
      have HT6 := Lib.hid (HI.out.dv.top.kp HK6.out (fun x => x))
      obtain ⟨lb, hlb⟩ : ∃ lb, w6.heap.size = lb := ⟨_, rfl⟩
      have HLB := Lib.hid hlb
      obtain ⟨xb, hxb⟩ : ∃ xb, w5.heap.size + 1 = xb := ⟨_, rfl⟩
      have HXB := Lib.hid hxb
      obtain ⟨db', tb, tlo, thi, n, batch', room', v, T, ls⟩ := d
      obtain rfl : db' = db := HI.out.db_
      have HRW := Lib.hid (own_kp HI.out.dv.row HK6.out (fun _ _ x => x))
      simp only at HRW
      obtain ⟨ao, sc, rfl⟩ := own_shape HRW.out
      have HTX := HT6
      simp only [dvC] at HTX
      have t0 := HTX.out.cell 0 rfl
      rw [hxb] at HBX ⊢
      clear hbx hk6 c2 HPO5 HTX hxb hlb
      have hls := laneSlice
      have HRA := Lib.hid ((HRW.out.alloc (.cells (laneZ pb xb).toArray 93)).alloc (.cells #[.pointer (some ⟨w6.heap.size, 0, none⟩)] 94))
      have hlsz : ls.length ≤ 8 := by
        have := congrArg List.length HI.out.st_
        simp only [List.length_map, List.length_take] at this
        omega
      have hti : thi ≤ w6.heap.size := Nat.le_trans HI.out.dv.hsz HK6.out.size
      have hka : Kp none' w6 ((w6.alloc (.cells (laneZ pb xb).toArray 93)).alloc (.cells #[.pointer (some ⟨w6.heap.size, 0, none⟩)] 94)) := ((Kp.refl none' w6).alloc _).alloc _
      have hbl := ((Blk.new w6 (laneZ pb xb) 93).alloc (.cells #[.pointer (some ⟨w6.heap.size, 0, none⟩)] 94))
      have hxl := HBX.out.top.lt
      have hcl := HBX.out.clt
      have h56 := H56.out
      have h45 := H45.out
      have h4 := H4.out
      have hxb := HXB.out
      have hlm : LnM ((w6.alloc (.cells (laneZ pb xb).toArray 93)).alloc (.cells #[.pointer (some ⟨w6.heap.size, 0, none⟩)] 94)) room ⟨w6.heap.size, xb, w5.heap.size, f, PO q, [], zRf⟩ :=
        ⟨by have := hbl; rw [← HPB.out] at this ⊢; exact this, HPO6.out.old hka, HBX.out.old hka, rfl, by show w6.heap.size ≠ xb; omega, by show w6.heap.size ≠ w5.heap.size; omega, fun h => absurd (show w6.heap.size < w5.heap.size from H5L.out _ h) (by omega),
          fun h => absurd (show xb < w5.heap.size from H5L.out _ h) (by omega), fun h => absurd (show w5.heap.size < w5.heap.size from H5L.out _ h) (by omega), fun x h1 h2 => by
            have h3 : f.hi ≤ w5.heap.size := H5H.out
            have h2 : x < f.hi := h2
            exact ⟨by show x ≠ w6.heap.size; omega, by show x ≠ xb; omega, by show x ≠ w5.heap.size; omega⟩⟩
      have hfar : ∀ x, Ln.far ⟨w6.heap.size, xb, w5.heap.size, f, PO q, [], zRf⟩ x → wo.heap.size ≤ x := fun x hx => by
        rcases hx with (h | h | h | h) | ⟨h, _⟩
        · have h : x = w6.heap.size := h
          omega
        · have h : x = xb := h
          omega
        · have h : x = w5.heap.size := h
          omega
        · have := HFA.out x h; omega
        · have := HFL.out
          have h : f.lo ≤ x := h
          omega
      have hkA := HK6.out.trans hka
      have HST := Lib.hid (fun (w7 : World) (g7 cap7 : Nat) a1 a2 a3 => dw_step (w7 := w7) (g := g7) (cap := cap7) HI.out ⟨w6.heap.size, xb, w5.heap.size, f, PO q, [], zRf⟩ hkA hlm hfar a1 a2 a3)
      have HTA := Lib.hid (HT6.out.kp hka (fun x => x))
      have hdlo : db' < thi := Nat.lt_trans HI.out.dv.lo HI.out.dv.lh
      have hob : ∀ b, (Value.slice ao ls.length sc).ownBlock = some b → thi ≤ b := fun b e => (own_block HRA.out e).1
      clear hka hbl hxl hcl h56 h45 h4 hxb hlm hfar hkA HPO6 HBX HT6 H56 H45 H4 HXB HPB H5L H5H HFA HFL HRW HI HPO
      go_wp2_with (at_builtin; refine wp_app1_at tLane (.tmp 51) (.tmp 56) rfl rfl thi HRA.out [.pointer (some ⟨w6.heap.size, 0, none⟩)] rfl rfl rfl (heap_newD _ _ (by rw [World.size_alloc])) rfl (by omega) (by omega) (by rw [World.size_alloc, World.size_alloc]; omega) ?_)
      intro g7 cap7 w7 hown hgrow hgg
      have hT7 := HTA.out.kp ((Kp.refl (fun x => (Value.slice ao ls.length sc).ownBlock = some x) _).grown hgrow (fun b e => .inl e)) (fun e => by have := hob _ e; omega)
      have HS := Lib.hid (HST.out _ _ _ hgrow hown (by rw [World.size_alloc, World.size_alloc]; exact hgg))
      have t0 := hT7.cell 0 rfl
      have z0 := hT7.fz 0
      clear hown hgrow hgg hT7 HST HTA hob HRA
      go_wp2_with fail
      go_roundw
      case rel => exact ⟨j + 1, _, by go_num, by omega, by rw [HTK.out, List.map_append]; exact HS⟩
      case measure => simp [intOf]; omega
    · have hjn : j = ps.length := by omega
      have hji : ¬ (j : Int) < ps.length := by omega
      have hst := HI.out.st_
      rw [hjn, List.take_length] at hst
      have HFIN := Lib.hid (HP.out _ _ ⟨d, by rw [HI.out.db_], HI.out.dv, HI.out.pu, HI.out.ro, HI.out.ba, hst, HI.out.wd, HI.out.kp⟩)
      clear HI HP hst
      go_wp2_with fail
      exact HFIN.out
end Go.Proofs.YtfckgddodjmbdaaGreatDoor
