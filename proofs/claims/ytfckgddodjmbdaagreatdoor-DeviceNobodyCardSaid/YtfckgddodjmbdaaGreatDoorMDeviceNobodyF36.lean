/- A port in memory (layer 36). -/
import Derived.Test.YtfckgddodjmbdaaGreatDoorMDeviceNobodyF28
import Derived.Test.YtfckgddodjmbdaaGreatDoorMDeviceNobodyF33
import Derived.Test.YtfckgddodjmbdaaGreatDoorMDeviceNobodyF35
import Derived.Maps.OwnOps
import Derived.Maps.OwnSet
import Derived.Maps.Views
import Derived.Maps.StringElems
namespace Go.Proofs.YtfckgddodjmbdaaGreatDoor
set_option linter.unusedVariables false
set_option linter.unusedSimpArgs false
open Go Go.RowKit Go.Shelf Go.Maps
theorem map_kp {S : Nat → Prop} {w w' : World} {P : Program} {k : TypeId} {R : Value → Option (DataW Unit × List MemPlace)} {b n : Nat} {D : DataW Unit} (h : w.ownsMap P k R b n D) (k' : Kp S w w') (hs : ¬ S b) : w'.ownsMap P k R b n D := by
  obtain ⟨es, clock, hb, F, hs', hD⟩ := h
  exact ⟨es, clock, (k'.block b (Array.getElem?_eq_some_iff.1 hb).1 hs).trans hb, F, hs', hD⟩
abbrev kU (x : Int) : Lit := .int .u32 x
structure PoF where
  pb : Nat
  mb : Nat
  tb : Nat
  lo : Nat
  hi : Nat
  sf : ShF
def PoF.all (f : PoF) : Nat → Prop := fun b => b = f.pb ∨ b = f.mb ∨ f.sf.all b
def poC (p : Po) (f : PoF) : List Value := [.pointer (some ⟨f.sf.sb, 0, none⟩), .pointer (some ⟨f.tb, 0, none⟩), .int .u64 p.m.rate, .int .u64 p.m.near, .int .u64 p.m.far, .int .u64 p.m.a, .int .u64 p.m.b, .int .u8 p.y, .map (some f.mb), .int .u32 p.num]
structure Po.Ok (p : Po) : Prop where
  okr : ∀ r ∈ p.rl, r.Ok
  chk : chkN p.rl = 0
  mok : p.m.Ok
  y : p.y ≤ 63
  num : p.num < 4294967296
  wl : ∀ b, (p.wt b).length ≤ 100000
structure WtM (w : World) (mb num : Nat) (wt : Nat → List UInt8) : Prop where
  is : ∃ n D, w.ownsMap Tryz.prog 24 (plainElem (H := Unit) Tryz.prog 9) mb n D ∧ n ≤ num ∧ ∀ b : Nat, b < 4294967296 → D.atKey (kU b) (.lit (.string [])) = .lit (.string (wt b))
theorem WtM.kp {T : Nat → Prop} {w w' : World} {mb num : Nat} {wt : Nat → List UInt8} (h : WtM w mb num wt) (k : Kp T w w') (hT : ¬ T mb) : WtM w' mb num wt := by
  obtain ⟨n, D, h1, h2⟩ := h.is
  exact ⟨n, D, map_kp h1 k hT, h2⟩
theorem WtM.lt {w : World} {mb num : Nat} {wt : Nat → List UInt8} (h : WtM w mb num wt) : mb < w.heap.size := by
  obtain ⟨n, D, h1, _⟩ := h.is
  exact h1.lt
theorem kU_wf {x : Nat} (h : x < 4294967296) : (Lit.int .u32 (x : Int)).wf = true := by simp [Lit.wf, IntKind.min, IntKind.max, IntKind.signed, IntKind.bits]; omega
theorem kU_key (x : Nat) (h : x < 4294967296) : keyOf Tryz.prog 24 (.int .u32 (x : Int)) = some (kU x) := keyOf_int_mk Tryz.underlying24 (kU_wf h)
theorem kU_lit (x : Int) : WideAt.IsKeyLit (kU x) := by simp [WideAt.IsKeyLit, kU]
theorem str_elem (x : ByteArray) (h : x.size ≤ 1000000) : plainElem (H := Unit) Tryz.prog 9 (.string x) = some (.lit (.string (bl x)), []) := plainElem_string Tryz.underlying9 (by unfold maxLen; omega)
theorem WtM.look {w : World} {mb num : Nat} {wt : Nat → List UInt8} (h : WtM w mb num wt) (id : Nat) (hid : id < 4294967296) :
    ∀ W, Kp none' w W → (Instr.lookup 51 (.map (some mb)) (.int .u32 (id : Int)) false).run Tryz.prog W = .ok (.string (tx (wt id))) W := fun W k => by
  obtain ⟨n, D, h1, _, h3⟩ := h.is
  obtain ⟨v, ps, hrun, hv⟩ := (map_kp h1 k (fun x => x)).lookup (int_keyed Tryz.underlying24) Tryz.underlying51 (Tryz.zeroValue9 W) (str_elem ⟨#[]⟩ (by decide)) (kU_key id hid)
  obtain ⟨s, rfl, hs, _⟩ := plainElem_string_inv Tryz.underlying9 hv
  have h4 := h3 id hid
  have e0 : bl (⟨#[]⟩ : ByteArray) = [] := rfl
  rw [e0, h4] at hs
  have h5 : wt id = s.data.toList := by
    have := congrArg Prod.fst hs
    simpa using this
  rw [hrun, h5]
  exact congrArg (fun x => Result.ok (Value.string x) W) (tx_bl s).symm
theorem WtM.put {w w' : World} {mb num n : Nat} {wt : Nat → List UInt8} {D : DataW Unit} (hown : w.ownsMap Tryz.prog 24 (plainElem (H := Unit) Tryz.prog 9) mb n D) (hat : ∀ b : Nat, b < 4294967296 → D.atKey (kU b) (.lit (.string [])) = .lit (.string (wt b))) (hn : n ≤ num) (id : Nat) (x : List UInt8)
    (h : w'.ownsMap Tryz.prog 24 (plainElem (H := Unit) Tryz.prog 9) mb (n + 1) (D.put (kU id) (.lit (.string x)))) : WtM w' mb (num + 1) (fun k => if k = id then x else wt k) := by
  refine ⟨n + 1, _, h, by omega, fun b hb => ?_⟩
  by_cases e : b = id
  · subst e
    rw [if_pos rfl]
    exact atKey_put_same hown.isMap (kU_lit _) _ _
  · rw [if_neg e, atKey_put_other (fun hc => e (by simp [kU] at hc; omega)), hat b hb]
theorem WtM.del {w w' : World} {mb num n : Nat} {wt : Nat → List UInt8} {D : DataW Unit} (hat : ∀ b : Nat, b < 4294967296 → D.atKey (kU b) (.lit (.string [])) = .lit (.string (wt b))) (hn : n ≤ num) (id : Nat)
    (h : w'.ownsMap Tryz.prog 24 (plainElem (H := Unit) Tryz.prog 9) mb n (D.del (kU id))) : WtM w' mb num (fun k => if k = id then [] else wt k) := by
  refine ⟨n, _, h, hn, fun b hb => ?_⟩
  by_cases e : b = id
  · subst e
    rw [if_pos rfl]
    exact atKey_del_same _
  · rw [if_neg e, atKey_del_other (fun hc => e (by simp [kU] at hc; omega)), hat b hb]
structure PoM (w : World) (f : PoF) (p : Po) : Prop where
  top : Blk w f.pb (poC p f) 53
  sh : ShM w f.sf p.s
  ru : RtB w f.lo f.hi f.tb p.rl
  mp : WtM w f.mb p.num p.wt
  n1 : f.pb ≠ f.mb
  n2 : ¬ f.sf.all f.pb
  n3 : ¬ f.sf.all f.mb
  n4 : ¬ (f.lo ≤ f.pb ∧ f.pb < f.hi)
  n5 : ¬ (f.lo ≤ f.mb ∧ f.mb < f.hi)
  n6 : ∀ b, f.sf.all b → ¬ (f.lo ≤ b ∧ b < f.hi)
  hi : f.hi ≤ w.heap.size
  ok : p.Ok
theorem PoM.kp {T : Nat → Prop} {w w' : World} {f : PoF} {p : Po} (h : PoM w f p) (k : Kp T w w') (hT : ∀ b, f.all b → ¬ T b) (hR : ∀ b, f.lo ≤ b → b < f.hi → ¬ T b) : PoM w' f p :=
  { h with top := h.top.kp k (hT _ (.inl rfl)), sh := h.sh.kp k (fun b hb => hT b (.inr (.inr hb))), ru := h.ru.kp k hR, mp := h.mp.kp k (hT _ (.inr (.inl rfl))), hi := Nat.le_trans h.hi k.size }
theorem PoM.old {w w' : World} {f : PoF} {p : Po} (h : PoM w f p) (k : Kp none' w w') : PoM w' f p := h.kp k (fun _ _ x => x) (fun _ _ _ x => x)
theorem PoM.lt {w : World} {f : PoF} {p : Po} (h : PoM w f p) {b : Nat} (hb : f.all b) : b < w.heap.size := by
  rcases hb with rfl | rfl | hb
  · exact h.top.lt
  · exact h.mp.lt
  · exact h.sh.lt hb
abbrev PoTo (w : World) (f : PoF) (p' : Po) (w' : World) : Prop := ∃ f', PoM w' f' p' ∧ Kp f.all w w' ∧ Nw w f.all f'.all ∧ f'.pb = f.pb ∧ f'.lo = f.lo ∧ f'.hi = f.hi
def ColOk (p : Po) (n : Nat) : Prop := ∀ (w : World) (f : PoF), Blk w f.pb (poC p f) 53 → Calls Tryz.prog 21 #[.pointer (some ⟨f.pb, 0, none⟩), .int .u64 n] w fun e w' => e = .returned (.int .i64 (colP p.m n).2) ∧ Blk w' f.pb (poC { p with m := (colP p.m n).1 } f) 53 ∧ Kp (fun b => b = f.pb) w w'

theorem takeH_fit (l : List UInt8) : (takeH l).Ok := ⟨wd_lt _ _, wd_lt _ _, hf_lt _ _⟩

theorem PoM.col {w w' : World} {f : PoF} {p : Po} (h : PoM w f p) {m : Mt} (hb : Blk w' f.pb (poC { p with m := m } f) 53) (k : Kp (fun b => b = f.pb) w w') (hm : m.Ok) : PoM w' f { p with m := m } :=
  { h with top := hb, sh := h.sh.kp k (fun b hb e => h.n2 (e ▸ hb)), ru := h.ru.kp k (fun b h1 h2 e => h.n4 (e ▸ ⟨h1, h2⟩)), mp := h.mp.kp k (fun e => h.n1 e.symm), hi := Nat.le_trans h.hi k.size, ok := { h.ok with mok := hm } }
theorem PoM.shTo {w w' : World} {f : PoF} {p : Po} (h : PoM w f p) {s' : Sh} (ht : ShTo w f.sf s' w') : ∃ f', PoM w' { f with sf := f' } { p with s := s' } ∧ Kp f.all w w' ∧ Nw w f.all ({ f with sf := f' } : PoF).all ∧ f'.sb = f.sf.sb := by
  obtain ⟨f', hm, hk, hn, hs⟩ := ht
  have hnp : ¬ f'.all f.pb := fun e => by rcases hn _ e with e | e; exact h.n2 e; (have := h.top.lt; omega)
  have hnm : ¬ f'.all f.mb := fun e => by rcases hn _ e with e | e; exact h.n3 e; (have := h.mp.lt; omega)
  refine ⟨f', { h with top := ?_, sh := hm, ru := h.ru.kp hk (fun b h1 h2 e => h.n6 b e ⟨h1, h2⟩), mp := h.mp.kp hk h.n3, n2 := hnp, n3 := hnm, n6 := ?_, hi := Nat.le_trans h.hi hk.size, ok := { h.ok with } }, hk.mono (fun b _ hb => .inr (.inr hb)), ?_, hs⟩
  · have := h.top.kp hk h.n2
    show Blk w' f.pb (poC { p with s := s' } { f with sf := f' }) _
    have e : poC { p with s := s' } { f with sf := f' } = poC p f := by simp only [poC, hs]
    rw [e]; exact this
  · intro b hb
    rintro ⟨h1, h2⟩
    rcases hn _ hb with e | e
    · exact h.n6 b e ⟨h1, h2⟩
    · have := h.hi; have h3 : b < f.hi := h2; omega
  · intro b hb
    rcases hb with hb | hb | hb
    · exact .inl (.inl hb)
    · exact .inl (.inr (.inl hb))
    · rcases hn _ hb with e | e
      · exact .inl (.inr (.inr e))
      · exact .inr e
theorem PoM.wait {w w' : World} {f : PoF} {p : Po} (h : PoM w f p) {num : Nat} {wt : Nat → List UInt8} (hb : Blk w' f.pb (poC { p with num := num, wt := wt } f) 53) (hm : WtM w' f.mb num wt) (k : Kp (fun b => b = f.pb ∨ b = f.mb) w w') (hn : num < 4294967296) (hl : ∀ b, (wt b).length ≤ 100000) :
    PoM w' f { p with num := num, wt := wt } :=
  { h with top := hb, sh := h.sh.kp k (fun b hb e => by rcases e with e | e; exact h.n2 (e ▸ hb); exact h.n3 (e ▸ hb)), ru := h.ru.kp k (fun b h1 h2 e => by rcases e with e | e; exact h.n4 (e ▸ ⟨h1, h2⟩); exact h.n5 (e ▸ ⟨h1, h2⟩)), mp := hm, hi := Nat.le_trans h.hi k.size, ok := { h.ok with num := hn, wl := hl } }
theorem PoTo.trans {w w1 w2 : World} {f f1 : PoF} {p2 : Po} (k : Kp f.all w w1) (n : Nw w f.all f1.all) (e : f1.pb = f.pb ∧ f1.lo = f.lo ∧ f1.hi = f.hi) (h : PoTo w1 f1 p2 w2) : PoTo w f p2 w2 := by
  obtain ⟨f2, h1, h2, h3, h4, h5, h6⟩ := h
  exact ⟨f2, h1, k.steps n h2, n.trans h3 k.size, h4.trans e.1, h5.trans e.2.1, h6.trans e.2.2⟩
theorem hop_len {l : List UInt8} (h : takeE l = 0) : (hopL l).length = l.length := by
  have h28 := (take_parts h).1
  unfold hopL withL
  rw [cutAt_len (by rw [cutAt_len (by omega)]; omega), cutAt_len (by omega)]
theorem colP_ok {m : Mt} (h : m.Ok) (n : Nat) : (colP m n).1.Ok := by
  unfold colP
  split
  · exact h
  · rename_i hr
    have h1 := colMt_ok h.lt (h.chk (by omega)) n
    exact ⟨h1.1, fun _ => h1.2⟩
set_option maxRecDepth 100000 in
theorem pCol0 (p : Po) (n : Nat) (hr : p.m.rate = 0) : ColOk p n := fun w f hb => by
  have e : colP p.m n = (p.m, 1) := by unfold colP; rw [if_pos hr]
  have hb' : Blk w f.pb (poC { p with m := p.m } f) 53 := hb
  have HB := Lib.hid hb'
  have c2 := hb.cell 2 rfl
  rw [e]
  simp only
  have hr0 : (p.m.rate : Int) = 0 := by omega
  obtain ⟨pb, hpb⟩ : ∃ pb, f.pb = pb := ⟨_, rfl⟩
  rw [hpb] at c2 HB ⊢
  clear hb hb' e hpb
  go_enter Tryz.func21, Tryz.ntmps21
  go_wp2
  go_ret
  exact ⟨rfl, HB.out, Kp.refl _ _⟩

theorem flowN_lt {l : List RuN} (h : ∀ r ∈ l, r.Ok) {x : HdN} {fl : Nat} (hf : flowN l x = some fl) : fl < 4294967296 := by
  unfold flowN at hf
  cases hq : l.find? (fun r => holdsR r x) with
  | none => rw [hq] at hf; cases hf
  | some r =>
    rw [hq] at hf
    simp only [Option.map_some, Option.some.injEq] at hf
    rw [← hf]
    exact (h r (List.mem_of_find?_eq_some hq)).fl
theorem op_enq_ok {fl id n : Nat} (h1 : fl < 4294967296) (h2 : id < 4294967296) (h3 : n < 18446744073709551616) : (⟨1, fl, id, n, 0⟩ : OpR).ok :=
  ⟨⟨by show (-9223372036854775808 : Int) ≤ 1; decide, by show (1 : Int) ≤ 9223372036854775807; decide⟩, h1, h2, h3, by show 0 < 18446744073709551616; decide⟩
theorem enq_code (s : Sh) (fl id ln : Nat) : (enqS s fl id ln).1[1]? = some (.int .i64 (mayG s.g fl ln)) := by
  unfold enqS
  split
  · rename_i h; rw [h]; rfl
  · rfl
def z42 : List Value := rpC 0 0 0 0 0 0 zSt
set_option maxRecDepth 100000 in
set_option maxHeartbeats 2000000 in
theorem pArrGYes {w : World} {f : PoF} {p : Po} (h : PoM w f p) (hT : Tab w) (s : ByteArray) (hs : s.size ≤ 100000) (he : takeE (bl s) = 0) (fl : Nat) (hf : flowN p.rl (takeH (bl s)).n = some fl) (ho : hopE (bl s) = 0) (hcol : ColOk p s.size) (hc : (colP p.m s.size).2 = 1) (hn : bkN p.s.bk < 9223372036854775807) (hnum : p.num + 1 < 4294967296) (hmay : mayG p.s.g fl s.size = 0) :
    Calls Tryz.prog 5 #[.pointer (some ⟨f.pb, 0, none⟩), .string s] w fun e w' => e = .returned (.tuple #[.int .u32 ((p.num : Int) + 1), .int .i64 0]) ∧ PoTo w f { p with m := (colP p.m s.size).1, s := (enqS p.s fl (p.num + 1) s.size).2, num := p.num + 1, wt := fun k => if k = p.num + 1 then hopL (bl s) else p.wt k } w' := by
  have hfl2 := flowN_lt h.ok.okr hf
  have HT := Lib.hid (fun W => hTakeOk s hs he W)
  have HO := Lib.hid (fun W => hHopOk s hs ho W)
  have hlen : (hopL (bl s)).length = s.size := by rw [hop_len he, bl_len]
  have hfl := fun W (k : Kp none' w W) => tFlow W f.tb p.rl h.ok.okr h.ok.chk ((h.old k).ru.rt) (hT.kp k (fun x => x)) (takeH (bl s)) (takeH_fit _)
  rw [hf] at hfl
  have HF := Lib.hid hfl
  have HCL := Lib.hid (fun W (k : Kp none' w W) => hcol W f (h.old k).top)
  rw [hc] at HCL
  have hmo := colP_ok h.ok.mok s.size
  obtain ⟨m', hm'⟩ : ∃ m', (colP p.m s.size).1 = m' := ⟨_, rfl⟩
  rw [hm'] at HCL hmo ⊢
  have hy := h.ok.y
  obtain ⟨L, hL⟩ : ∃ L, hopL (bl s) = L := ⟨_, rfl⟩
  rw [hL] at HO hlen ⊢
  have hLl : L.length ≤ 100000 := by omega
  clear hL
  have HD := Lib.hid (fun W (k : ShM W f.sf p.s) => shDo ⟨1, fl, p.num + 1, s.size, 0⟩ k (op_enq_ok hfl2 hnum (by omega)) hn)
  have hvs : ∃ vs, (enqS p.s fl (p.num + 1) s.size).1 = vs ∧ vs[1]? = some (.int .i64 (mayG p.s.g fl s.size)) ∧ Rp42 vs := ⟨_, rfl, enq_code _ _ _ _, enq42 _ _ _ _⟩
  obtain ⟨vs, hvs, hv1, h42, h1c⟩ := hvs
  have hdo : doS p.s ⟨1, fl, p.num + 1, s.size, 0⟩ = enqS p.s fl (p.num + 1) s.size := by unfold doS; rw [if_pos rfl]
  rw [hdo, hvs] at HD
  obtain ⟨s', hs'⟩ : ∃ s', (enqS p.s fl (p.num + 1) s.size).2 = s' := ⟨_, rfl⟩
  rw [hs'] at HD ⊢
  obtain ⟨cd, hcd⟩ : ∃ cd, mayG p.s.g fl s.size = cd := ⟨_, rfl⟩
  rw [hcd] at hmay hv1
  have HM := Lib.hid h
  have HB := Lib.hid h.top
  obtain ⟨pb, hpb⟩ : ∃ pb, f.pb = pb := ⟨_, rfl⟩
  rw [hpb] at HB HCL ⊢
  have HPB := Lib.hid hpb
  obtain ⟨H, hH⟩ : ∃ H, takeH (bl s) = H := ⟨_, rfl⟩
  rw [hH] at HT HF
  have c0 := HB.out.cell 0 rfl
  simp only [enHd, enO, atN, isN] at HT HF HD
  rw [show ((p.num + 1 : Nat) : Int) = (p.num : Int) + 1 by omega] at HD
  obtain ⟨ds, id, ttl, sr, d, sp, dp⟩ := H
  simp only at HT HF
  refine calls_post ?_
  intro PP HP
  clear h he hpb hH hT hf hfl ho hcol hc hm' hvs hdo hs' hcd
  go_enter Tryz.func5, Tryz.ntmps5
  go_wp2_with fail
  refine (HT.out _).mono ?_
  rintro e w1 ⟨rfl, hk1⟩
  have HH1 := Lib.hid (Blk.new w1 [.int .u8 ds, .int .u16 id, .int .u8 ttl, .int .u32 sr, .int .u32 d, .int .u16 sp, .int .u16 dp] 56)
  have HK1 := Lib.hid (hk1.alloc (.cells #[.int .u8 ds, .int .u16 id, .int .u8 ttl, .int .u32 sr, .int .u32 d, .int .u16 sp, .int .u16 dp] 56))
  have d1 := (HB.out.kp HK1.out (fun x => x)).cell 1 rfl
  clear hk1 c0
  go_upto_region 6 with fail
  refine wp_region_kept2 [] [0, 1, 2, 3, 4, 5, 6, 7, 8, 9] 10 (by kernel_rfl) (by kernel_rfl) (fun c a d u w h => by cases d <;> exact h) ?_
  simp only [pick, List.getElem?_cons_succ, List.getElem?_cons_zero, List.drop_succ_cons, List.drop_zero]
  show wpKL _ _ _ _ _ _
  repeat (first
    | (refine wpKL_op (by exact rfl) (load_blk HH1.out _ Tryz.underlying56 rfl infoHd rfl rfl) ?_; simp only [Act.put, List.setIfInBounds_toArray, List.set_cons_succ, List.set_cons_zero])
    | (refine wpKL_op (by exact rfl) (by as_aux_lemma => intro W hK; have e1 := hK.cell d1 (fun x => x); go_simp; exact rfl) ?_; simp only [Act.put, List.setIfInBounds_toArray, List.set_cons_succ, List.set_cons_zero])
    | (refine wpKL_off (by exact rfl) ?_; simp only [Act.put, List.setIfInBounds_toArray, List.set_cons_succ, List.set_cons_zero])
    | (refine wpKL_call (by exact rfl) (by as_aux_lemma => intro W; go_simp; exact ⟨rfl, rfl⟩) (by intro W hK; with_reducible first | exact HF.out W (HK1.out.trans hK)) ?_; simp only [Act.put, List.setIfInBounds_toArray, List.set_cons_succ, List.set_cons_zero]))
  show ∀ W, _ → wpList _ _ _ _ _ _
  intro W2 hK2
  have HK2 := Lib.hid (HK1.out.trans hK2)
  clear hK2 HH1 HK1 d1
  go_wp2_with fail
  refine (HO.out _).mono ?_
  rintro e w3 ⟨rfl, hk3⟩
  have HK3 := Lib.hid (HK2.out.trans hk3)
  clear hk3 HK2
  go_wp2_with fail
  refine (HCL.out _ HK3.out).mono ?_
  rintro e w4 ⟨rfl, hb4, hk4⟩
  have hm4 : PoM w4 f { p with m := m' } := (HM.out.old HK3.out).col (by rw [HPB.out]; exact hb4) (by rw [HPB.out]; exact hk4) hmo
  have HM4 := Lib.hid hm4
  have HK4 : Hid (Kp f.all w w4) := Lib.hid ((HK3.out.mono (fun _ _ x => x.elim)).trans (hk4.mono (fun b _ e => .inl (by rw [HPB.out]; exact e))))
  have c7 := hb4.cell 7 rfl
  have c9 := hb4.cell 9 rfl
  have c0 := hb4.cell 0 rfl
  clear hb4 hk4 hm4 hmo HM HK3 HCL HB
  go_wp2_with fail
  have HM5 := HM4
  have HK5 := HK4
  clear HM4 HK4 c7
  refine (HD.out _ HM5.out.sh).mono ?_
  rintro e w6 ⟨rfl, hto⟩
  obtain ⟨f', hm6, hk6, hn6, hsb⟩ := HM5.out.shTo hto
  have HM6 := Lib.hid hm6
  have HK6 := Lib.hid (HK5.out.trans hk6)
  have HN6 := Lib.hid (hn6.trans (Nw.refl w6 _) hk6.size)
  have hz6 : Blk (w6.alloc (.cells #[.int .i64 0, .int .i64 0, .int .u32 0, .int .u32 0, .int .u64 0, .int .u64 0, .int .u64 0, .int .u64 0, .int .i64 0, .int .u64 0, .int .u64 0, .int .u64 0, .int .u64 0, .int .u64 0, .int .u64 0, .int .u64 0, .int .u64 0, .int .u64 0, .int .u64 0, .int .u64 0, .int .u64 0, .int .u64 0, .int .u64 0, .int .u64 0, .int .u64 0, .int .u64 0, .int .u64 0, .int .u64 0, .int .u64 0, .int .u64 0, .int .u64 0, .int .u64 0, .int .u64 0, .int .u64 0, .int .u64 0, .int .u64 0, .int .u64 0, .int .u64 0, .int .u64 0, .int .u64 0, .int .u64 0, .int .u64 0] 67)) w6.heap.size z42 67 := Blk.new w6 z42 67
  have HZ6 := Lib.hid hz6
  have hws := HK5.out.size
  have HWS := Lib.hid hws
  clear hto hm6 hk6 hn6 hsb hz6 c0 c9 HD HM5 HK5 hws
  go_upto_region 22 with (first
    | (refine wp_st_blk rfl 67 (.tmp 14) (.tmp 84) rfl HZ6.out vs (by rw [h42]; rfl) rfl rfl (by rw [h42]; exact infoRp) h1c ?_
       intro W7 hb7 hk7
       have b1 := hb7.cell 1 hv1
       have hk67 : Kp none' w6 W7 := ((Kp.refl none' w6).alloc (.cells #[.int .i64 0, .int .i64 0, .int .u32 0, .int .u32 0, .int .u64 0, .int .u64 0, .int .u64 0, .int .u64 0, .int .i64 0, .int .u64 0, .int .u64 0, .int .u64 0, .int .u64 0, .int .u64 0, .int .u64 0, .int .u64 0, .int .u64 0, .int .u64 0, .int .u64 0, .int .u64 0, .int .u64 0, .int .u64 0, .int .u64 0, .int .u64 0, .int .u64 0, .int .u64 0, .int .u64 0, .int .u64 0, .int .u64 0, .int .u64 0, .int .u64 0, .int .u64 0, .int .u64 0, .int .u64 0, .int .u64 0, .int .u64 0, .int .u64 0, .int .u64 0, .int .u64 0, .int .u64 0, .int .u64 0, .int .u64 0] 67)).then hk7 (fun i h1 h2 => by omega)
       have HM7 := Lib.hid (HM6.out.old hk67)
       have HK7 := Lib.hid (HK6.out.trans (hk67.mono (fun _ _ x => x.elim)))
       have HK67 := Lib.hid hk67
       clear hb7 hk7 hk67 HM6 HK6 HZ6))
  have hb7 := HM7.out.top
  obtain ⟨nn, DD, hown, hnn, hat⟩ := HM7.out.mp.is
  have HOWN := Lib.hid hown
  have hpm : pb ≠ f.mb := by have := HM7.out.n1; rw [← HPB.out]; exact this
  have hpb7 : Blk W7 pb (poC { p with m := m', s := s' } { f with sf := f' }) 53 := by rw [← HPB.out]; exact hb7
  have a9 := hpb7.cell 9 rfl
  have z9 := hpb7.fz 9
  have HB7 := Lib.hid hpb7
  clear hb7 hown hpb7
  go_upto_region 23 with fail
  have hb8 : Blk (W7.setCell ⟨pb, 9, none⟩ (.int .u32 ((p.num : Int) + 1))) pb ((poC { p with m := m', s := s' } { f with sf := f' }).set 9 (.int .u32 ((p.num : Int) + 1))) 53 := HB7.out.set 9 _
  have hk8 := kp_at W7 pb 9 (.int .u32 ((p.num : Int) + 1))
  have ho8 := map_kp HOWN.out hk8 (fun e => hpm e.symm)
  obtain ⟨W8, hW8⟩ : ∃ W8, W7.setCell ⟨pb, 9, none⟩ (.int .u32 ((p.num : Int) + 1)) = W8 := ⟨_, rfl⟩
  rw [hW8] at hb8 hk8 ho8 ⊢
  have a8 := hb8.cell 8 rfl
  have HB8 := Lib.hid hb8
  have HK8 := Lib.hid hk8
  have HO8 := Lib.hid ho8
  have HKY : Hid (keyOf Tryz.prog 24 (.int .u32 ((p.num : Int) + 1)) = some (kU ((p.num + 1 : Nat) : Int))) := Lib.hid (by have := kU_key (p.num + 1) hnum; rw [show ((p.num + 1 : Nat) : Int) = (p.num : Int) + 1 by omega] at this ⊢; exact this)
  have HEL : Hid (plainElem (H := Unit) Tryz.prog 9 (.string (tx L)) = some (.lit (.string L), [])) := Lib.hid (by have := str_elem (tx L) (by rw [tx_size]; omega); rw [bl_tx] at this; exact this)
  clear a9 z9 b1 hb8 hk8 ho8 hW8 HB7 HOWN
  go_wp2_with (at_mapUpdate; refine wpList_mapUpdate_own _ rfl _ _ _ 51 rfl 24 9 (int_keyed Tryz.underlying24) Tryz.underlying51 (plainElem (H := Unit) Tryz.prog 9) f.mb nn DD rfl HO8.out (by unfold maxLen; have h3 : nn ≤ p.num := hnn; omega) _ _ _ rfl rfl HKY.out (.lit (.string L)) [] HEL.out ?_)
  intro w9 hown9 hgrow9
  have hk89 : Kp (fun b => b = f.mb) W8 w9 := (Kp.refl _ _).grown hgrow9 (fun k e => .inl (Option.some.inj e).symm)
  have hb9 := HB8.out.kp hk89 hpm
  have hk79 : Kp (fun b => b = f.pb ∨ b = f.mb) W7 w9 := (HK8.out.mono (fun b _ e => .inl (by rw [HPB.out]; exact e))).trans (hk89.mono (fun b _ e => .inr e))
  have hwt := WtM.put HO8.out hat hnn (p.num + 1) L hown9
  have hpo := PoM.wait HM7.out (num := p.num + 1) (wt := fun k => if k = p.num + 1 then L else p.wt k) (by rw [HPB.out]; exact hb9) hwt hk79 hnum (fun b => by
    show (if b = p.num + 1 then L else p.wt b).length ≤ _
    split
    · exact hLl
    · exact HM7.out.ok.wl b)
  have HFIN := Lib.hid (HP.out _ w9 ⟨rfl, { f with sf := f' }, hpo, HK7.out.then hk79 (fun b hb e => by rcases e with e | e; exact .inl e; exact .inr (.inl e)), fun b hb => by
    rcases HN6.out b hb with e | e
    · exact .inl e
    · exact .inr (by have := HWS.out; omega), rfl, rfl, rfl⟩)
  clear hown9 hgrow9 hk89 hb9 hk79 hwt hpo HM7 HK7 HP HK67 HB8 HK8 HO8 hat a8
  go_wp2_with fail
  exact HFIN.out

theorem op_deq_ok : (⟨2, 0, 0, 0, 0⟩ : OpR).ok :=
  ⟨⟨by show (-9223372036854775808 : Int) ≤ 2; decide, by show (2 : Int) ≤ 9223372036854775807; decide⟩, by show 0 < 4294967296; decide, by show 0 < 4294967296; decide, by show 0 < 18446744073709551616; decide, by show 0 < 18446744073709551616; decide⟩
set_option maxRecDepth 100000 in
set_option maxHeartbeats 2000000 in
theorem pLeaNo {w : World} {f : PoF} {p : Po} (h : PoM w f p) (c : Int) (hc0 : ¬ c = 0) (hv1 : (deqS p.s).1[1]? = some (.int .i64 c)) (hst : (deqS p.s).2 = p.s) (hn : bkN p.s.bk < 9223372036854775807) :
    Calls Tryz.prog 6 #[.pointer (some ⟨f.pb, 0, none⟩)] w fun e w' => e = .returned (.tuple #[.string ⟨#[]⟩, .int .i64 c]) ∧ PoTo w f p w' := by
  have HD := Lib.hid (fun W (k : ShM W f.sf p.s) => shDo ⟨2, 0, 0, 0, 0⟩ k op_deq_ok hn)
  have hdo : doS p.s ⟨2, 0, 0, 0, 0⟩ = deqS p.s := by unfold doS; rw [if_neg (by decide), if_pos rfl]
  obtain ⟨vs, hvs⟩ : ∃ vs, (deqS p.s).1 = vs := ⟨_, rfl⟩
  have hr42 := deq42 p.s
  rw [hvs] at hv1 hr42
  obtain ⟨h42, h1c⟩ := hr42
  rw [hdo, hvs] at HD
  obtain ⟨s', hs'⟩ : ∃ s', (deqS p.s).2 = s' := ⟨_, rfl⟩
  rw [hs'] at HD
  have HM := Lib.hid h
  have c0 := h.top.cell 0 rfl
  obtain ⟨pb, hpb⟩ : ∃ pb, f.pb = pb := ⟨_, rfl⟩
  rw [hpb] at c0 ⊢
  have HPB := Lib.hid hpb
  simp only [enO] at HD
  refine calls_post ?_
  intro PP HP
  have HPS : Hid (({ p with s := s' } : Po) = p) := Lib.hid (by rw [← hs', hst])
  clear h hpb hvs hdo hs' hst
  go_enter Tryz.func6, Tryz.ntmps6
  go_wp2_with fail
  refine (HD.out _ HM.out.sh).mono ?_
  rintro e w6 ⟨rfl, hto⟩
  obtain ⟨f', hm6, hk6, hn6, hsb⟩ := HM.out.shTo hto
  have HM6 := Lib.hid hm6
  have HK6 := Lib.hid hk6
  have HN6 := Lib.hid hn6
  have hz6 : Blk (w6.alloc (.cells #[.int .i64 0, .int .i64 0, .int .u32 0, .int .u32 0, .int .u64 0, .int .u64 0, .int .u64 0, .int .u64 0, .int .i64 0, .int .u64 0, .int .u64 0, .int .u64 0, .int .u64 0, .int .u64 0, .int .u64 0, .int .u64 0, .int .u64 0, .int .u64 0, .int .u64 0, .int .u64 0, .int .u64 0, .int .u64 0, .int .u64 0, .int .u64 0, .int .u64 0, .int .u64 0, .int .u64 0, .int .u64 0, .int .u64 0, .int .u64 0, .int .u64 0, .int .u64 0, .int .u64 0, .int .u64 0, .int .u64 0, .int .u64 0, .int .u64 0, .int .u64 0, .int .u64 0, .int .u64 0, .int .u64 0, .int .u64 0] 67)) w6.heap.size z42 67 := Blk.new w6 z42 67
  have HZ6 := Lib.hid hz6
  clear hto hm6 hk6 hn6 hsb hz6 c0 HD
  go_wp2_with (first
    | (refine wp_st_blk rfl 67 (.tmp 4) (.tmp 20) rfl HZ6.out vs (by rw [h42]; rfl) rfl rfl (by rw [h42]; exact infoRp) h1c ?_
       intro W7 hb7 hk7
       have b1 := hb7.cell 1 hv1
       have HB7 := Lib.hid hb7
       have hk67 : Kp none' w6 W7 := ((Kp.refl none' w6).alloc (.cells #[.int .i64 0, .int .i64 0, .int .u32 0, .int .u32 0, .int .u64 0, .int .u64 0, .int .u64 0, .int .u64 0, .int .i64 0, .int .u64 0, .int .u64 0, .int .u64 0, .int .u64 0, .int .u64 0, .int .u64 0, .int .u64 0, .int .u64 0, .int .u64 0, .int .u64 0, .int .u64 0, .int .u64 0, .int .u64 0, .int .u64 0, .int .u64 0, .int .u64 0, .int .u64 0, .int .u64 0, .int .u64 0, .int .u64 0, .int .u64 0, .int .u64 0, .int .u64 0, .int .u64 0, .int .u64 0, .int .u64 0, .int .u64 0, .int .u64 0, .int .u64 0, .int .u64 0, .int .u64 0, .int .u64 0, .int .u64 0] 67)).then hk7 (fun i h1 h2 => by omega)
       have HM7 := Lib.hid (HM6.out.old hk67)
       have HK7 := Lib.hid (HK6.out.trans (hk67.mono (fun _ _ x => x.elim)))
       have HK67 := Lib.hid hk67
       clear hb7 hk7 hk67 HM6 HK6 HZ6))
  go_upto_region 5 with fail
  have HM8 := Lib.hid (HM7.out.old (Kp.drewN (Kp.refl none' _) 1))
  have HK8 := Lib.hid (HK7.out.drewN 1)
  go_region
  all_goals
    go_wp2_with fail
    exact HP.out _ _ ⟨rfl, { f with sf := f' }, by have := HM8.out; rw [HPS.out] at this; exact this, HK8.out, HN6.out, rfl, rfl, rfl⟩
set_option maxRecDepth 100000 in
set_option maxHeartbeats 2000000 in
theorem pLeaYes {w : World} {f : PoF} {p : Po} (h : PoM w f p) (id : Nat) (hid : id < 4294967296) (hv1 : (deqS p.s).1[1]? = some (.int .i64 0)) (hv3 : (deqS p.s).1[3]? = some (.int .u32 id)) (hn : bkN p.s.bk < 9223372036854775807) :
    Calls Tryz.prog 6 #[.pointer (some ⟨f.pb, 0, none⟩)] w fun e w' => e = .returned (.tuple #[.string (tx (p.wt id)), .int .i64 0]) ∧ PoTo w f { p with s := (deqS p.s).2, wt := fun k => if k = id then [] else p.wt k } w' := by
  have HD := Lib.hid (fun W (k : ShM W f.sf p.s) => shDo ⟨2, 0, 0, 0, 0⟩ k op_deq_ok hn)
  have hdo : doS p.s ⟨2, 0, 0, 0, 0⟩ = deqS p.s := by unfold doS; rw [if_neg (by decide), if_pos rfl]
  obtain ⟨vs, hvs⟩ : ∃ vs, (deqS p.s).1 = vs := ⟨_, rfl⟩
  have hr42 := deq42 p.s
  rw [hvs] at hv1 hr42
  obtain ⟨h42, h1c⟩ := hr42
  rw [hdo, hvs] at HD
  obtain ⟨s', hs'⟩ : ∃ s', (deqS p.s).2 = s' := ⟨_, rfl⟩
  rw [hs'] at HD
  have HM := Lib.hid h
  have c0 := h.top.cell 0 rfl
  obtain ⟨pb, hpb⟩ : ∃ pb, f.pb = pb := ⟨_, rfl⟩
  rw [hpb] at c0 ⊢
  have HPB := Lib.hid hpb
  simp only [enO] at HD
  rw [hvs] at hv3
  rw [hs']
  refine calls_post ?_
  intro PP HP
  have HKY := Lib.hid (kU_key id hid)
  clear h hpb hvs hdo hs'
  go_enter Tryz.func6, Tryz.ntmps6
  go_wp2_with fail
  refine (HD.out _ HM.out.sh).mono ?_
  rintro e w6 ⟨rfl, hto⟩
  obtain ⟨f', hm6, hk6, hn6, hsb⟩ := HM.out.shTo hto
  have HM6 := Lib.hid hm6
  have HK6 := Lib.hid hk6
  have HN6 := Lib.hid hn6
  have hz6 : Blk (w6.alloc (.cells #[.int .i64 0, .int .i64 0, .int .u32 0, .int .u32 0, .int .u64 0, .int .u64 0, .int .u64 0, .int .u64 0, .int .i64 0, .int .u64 0, .int .u64 0, .int .u64 0, .int .u64 0, .int .u64 0, .int .u64 0, .int .u64 0, .int .u64 0, .int .u64 0, .int .u64 0, .int .u64 0, .int .u64 0, .int .u64 0, .int .u64 0, .int .u64 0, .int .u64 0, .int .u64 0, .int .u64 0, .int .u64 0, .int .u64 0, .int .u64 0, .int .u64 0, .int .u64 0, .int .u64 0, .int .u64 0, .int .u64 0, .int .u64 0, .int .u64 0, .int .u64 0, .int .u64 0, .int .u64 0, .int .u64 0, .int .u64 0] 67)) w6.heap.size z42 67 := Blk.new w6 z42 67
  have HZ6 := Lib.hid hz6
  clear hto hm6 hk6 hn6 hsb hz6 c0 HD
  go_upto_region 4 with (first
    | (refine wp_st_blk rfl 67 (.tmp 4) (.tmp 20) rfl HZ6.out vs (by rw [h42]; rfl) rfl rfl (by rw [h42]; exact infoRp) h1c ?_
       intro W7 hb7 hk7
       have b1 := hb7.cell 1 hv1
       have HB7 := Lib.hid hb7
       have hk67 : Kp none' w6 W7 := ((Kp.refl none' w6).alloc (.cells #[.int .i64 0, .int .i64 0, .int .u32 0, .int .u32 0, .int .u64 0, .int .u64 0, .int .u64 0, .int .u64 0, .int .i64 0, .int .u64 0, .int .u64 0, .int .u64 0, .int .u64 0, .int .u64 0, .int .u64 0, .int .u64 0, .int .u64 0, .int .u64 0, .int .u64 0, .int .u64 0, .int .u64 0, .int .u64 0, .int .u64 0, .int .u64 0, .int .u64 0, .int .u64 0, .int .u64 0, .int .u64 0, .int .u64 0, .int .u64 0, .int .u64 0, .int .u64 0, .int .u64 0, .int .u64 0, .int .u64 0, .int .u64 0, .int .u64 0, .int .u64 0, .int .u64 0, .int .u64 0, .int .u64 0, .int .u64 0] 67)).then hk7 (fun i h1 h2 => by omega)
       have HM7 := Lib.hid (HM6.out.old hk67)
       have HK7 := Lib.hid (HK6.out.trans (hk67.mono (fun _ _ x => x.elim)))
       have HK67 := Lib.hid hk67
       clear hb7 hk7 hk67 HM6 HK6 HZ6))
  have hpb7 : Blk W7 pb (poC { p with s := s' } { f with sf := f' }) 53 := by rw [← HPB.out]; exact HM7.out.top
  have a8 := hpb7.cell 8 rfl
  have b3 := HB7.out.cell 3 hv3
  have HL := Lib.hid (HM7.out.mp.look id hid)
  clear hpb7
  go_upto_region 6 with fail
  refine wp_region_kept2 [] [0, 1, 2, 3, 4, 5, 6, 7] 8 (by kernel_rfl) (by kernel_rfl) (fun c a d u w h => by cases d <;> exact h) ?_
  simp only [pick, List.getElem?_cons_succ, List.getElem?_cons_zero, List.drop_succ_cons, List.drop_zero]
  show wpKL _ _ _ _ _ _
  repeat (first
    | (refine wpKL_op (by exact rfl) (by as_aux_lemma => intro W hK; have e1 := hK.cell a8 (fun x => x); have e2 := hK.cell b3 (fun x => x); have e3 := HL.out W hK; go_simp; exact rfl) ?_; simp only [Act.put, List.setIfInBounds_toArray, List.set_cons_succ, List.set_cons_zero])
    | (refine wpKL_off (by exact rfl) ?_; simp only [Act.put, List.setIfInBounds_toArray, List.set_cons_succ, List.set_cons_zero]))
  show ∀ W, _ → wpList _ _ _ _ _ _
  intro W8 hK8
  have HM8 := Lib.hid (HM7.out.old hK8)
  have HK8 := Lib.hid (HK7.out.trans (hK8.mono (fun _ _ x => x.elim)))
  have d8 := hK8.cell a8 (fun x => x)
  have d3 := hK8.cell b3 (fun x => x)
  clear hK8 HM7 HK7 HL a8 b3 b1 HB7
  go_upto_region 7 with fail
  refine wp_region_kept2 [] [0, 1, 2, 3, 4, 5, 6] 7 (by kernel_rfl) (by kernel_rfl) (fun c a d u w h => by cases d <;> exact h) ?_
  simp only [pick, List.getElem?_cons_succ, List.getElem?_cons_zero, List.drop_succ_cons, List.drop_zero]
  show wpKL _ _ _ _ _ _
  repeat (first
    | (refine wpKL_op (by exact rfl) (by as_aux_lemma => intro W hK; have e1 := hK.cell d8 (fun x => x); have e2 := hK.cell d3 (fun x => x); go_simp; exact rfl) ?_; simp only [Act.put, List.setIfInBounds_toArray, List.set_cons_succ, List.set_cons_zero])
    | (refine wpKL_off (by exact rfl) ?_; simp only [Act.put, List.setIfInBounds_toArray, List.set_cons_succ, List.set_cons_zero]))
  show ∀ W, _ → wpList _ _ _ _ _ _
  intro W9 hK9
  have HM9 := Lib.hid (HM8.out.old hK9)
  have HK9 := Lib.hid (HK8.out.trans (hK9.mono (fun _ _ x => x.elim)))
  obtain ⟨nn, DD, hown, hnn, hat⟩ := HM9.out.mp.is
  have HOWN := Lib.hid hown
  clear hK9 HM8 HK8 d8 d3 hown
  refine wpList_delete_own _ rfl _ _ 51 24 rfl 9 (int_keyed Tryz.underlying24) Tryz.underlying51 (plainElem (H := Unit) Tryz.prog 9) f.mb nn DD rfl HOWN.out _ _ rfl HKY.out ?_
  intro w10 hown10 hturn10
  have hk10 : Kp (fun b => b = f.mb) W9 w10 := (Kp.refl _ _).grown hturn10.grown (fun k e => .inl (Option.some.inj e).symm)
  have hwt := WtM.del (w := W9) hat hnn id hown10
  have hk10' : Kp (fun b => b = f.pb ∨ b = f.mb) W9 w10 := hk10.mono (fun b _ e => .inr e)
  have hpo := PoM.wait HM9.out (num := p.num) (wt := fun k => if k = id then [] else p.wt k) (HM9.out.top.kp hk10 HM9.out.n1) hwt hk10' HM9.out.ok.num (fun b => by
    show (if b = id then [] else p.wt b).length ≤ _
    split
    · exact Nat.zero_le _
    · exact HM9.out.ok.wl b)
  have HFIN := Lib.hid (HP.out _ w10 ⟨rfl, { f with sf := f' }, hpo, HK9.out.then hk10 (fun b hb e => .inr (.inl e)), HN6.out, rfl, rfl, rfl⟩)
  clear hown10 hturn10 hk10 hk10' hwt hpo HM9 HK9 HP HK67 HOWN hat hnn
  go_wp2_with fail
  exact HFIN.out
end Go.Proofs.YtfckgddodjmbdaaGreatDoor

namespace Go.Proofs.YtfckgddodjmbdaaGreatDoor
set_option linter.unusedVariables false
set_option linter.unusedSimpArgs false
open Go Go.RowKit Go.Shelf
end Go.Proofs.YtfckgddodjmbdaaGreatDoor
