/- Whole blocks read, written, given back. -/
import Derived.Test.YtfckgddodjmbdaaGreatDoorMDeviceNobodyF17
import Derived.Test.YtfckgddodjmbdaaGreatDoorProg
import Derived.Test.YtfckgddodjmbdaaGreatDoorMDeviceNobodyF0
import Derived.ProofKit
import Derived.OpenShut
namespace Go.Proofs.YtfckgddodjmbdaaGreatDoor
set_option linter.unusedVariables false
set_option linter.unusedSimpArgs false
open Go Go.RowKit Go.Shelf
theorem setFlat_all : ∀ (vs : List Value) (o : Nat) (xs : List Value), o + vs.length = xs.length → setFlat xs o vs = xs.take o ++ vs
  | [], o, xs, h => by simp only [setFlat, List.append_nil]; rw [List.take_of_length_le (by simp at h; omega)]
  | v :: r, o, xs, h => by
    have hl : o < xs.length := by simp at h; omega
    show setFlat (xs.set o v) (o + 1) r = _
    rw [setFlat_all r (o + 1) (xs.set o v) (by rw [List.length_set]; simp at h; omega)]
    have : (xs.set o v).take (o + 1) = xs.take o ++ [v] := by
      rw [List.take_succ_eq_append_getElem (by rw [List.length_set]; exact hl), List.getElem_set_self, List.take_set_of_le (Nat.le_refl _)]
    rw [this]; simp
theorem Blk.setCells {b : Nat} {t : TypeId} : ∀ (vs : List Value) (o : Nat) (w : World) (cs : List Value), Blk w b cs t → Blk (w.setCells b o vs) b (setFlat cs o vs) t
  | [], _, _, _, h => h
  | v :: r, o, _, _, h => Blk.setCells r (o + 1) _ _ (h.set o v)
theorem wp_store_blk {P : Program} {ops : Array Oper} {rest : List Oper} {op : Oper} {a : Act} {Q : Exit → Act → World → Prop} (hgd : op.guard = none) (ty : TypeId) (x y : Operand) (ho : op.op = .store ty x y) {w : World} {b : Nat} {cs : List Value} {t : TypeId} (hb : Blk w b cs t) (vs : List Value) (hl : vs.length = cs.length)
    (hx : a.eval x = .pointer (some ⟨b, 0, none⟩)) (hy : a.eval y = .agg vs.toArray) (hinf : (P.info? ty).map (·.size) = some vs.length) (h1 : vs.all (·.oneCell') = true)
    (h : ∀ W2, Blk W2 b vs t → Kp (fun z => z = b) w W2 → wpList P ops Q rest (a.put op.dst undef) W2) : wpList P ops Q (op :: rest) a w := by
  refine wpList_store_mid hgd ty x y ho b 0 vs.toArray hx hy ?_ (by rw [List.size_toArray]; exact hinf) (by simpa using h1) ?_
  · intro j hj
    rw [List.size_toArray, hl] at hj
    refine ⟨?_, hb.fz _⟩
    rw [Nat.zero_add, hb.cell j (List.getElem?_eq_getElem hj)]; rfl
  · refine h _ ?_ (kp_setCells (S := fun z => z = b) (.inl rfl) _ _ _ (Kp.refl _ _))
    have := hb.setCells vs 0
    rw [setFlat_all vs 0 cs (by omega), List.take_zero, List.nil_append] at this
    exact this
theorem ret_blk {P : Program} {f : Func} {s : Tmp} {ty : TypeId} (hf : f.results = #[.cell s ty]) {R : Ending → World → Prop} {W : World} {g : Nat} {cs : List Value} {t : TypeId} {T : Array Value} (hb : Blk W g cs t) (d : TypeDesc) (hu : P.underlying ty = some d) (hd : (match d with | .struct _ | .array _ _ => true | _ => false) = true)
    (hi : (P.info? ty).map (·.size) = some cs.length) (h2 : T.getD s undef = .pointer (some ⟨g, 0, none⟩)) (hR : R (.returned (.agg cs.toArray)) W) : bodyPost P f R Exit.ret { tmps := T, defers := [] } W := by
  refine bodyPost_ret (v := .agg cs.toArray) ?_ rfl hR
  have h2' : T[s]?.getD undef = .pointer (some ⟨g, 0, none⟩) := by simpa using h2
  simp [results, hf, h2', asAddr, run_loadVar_row W g t ty cs.toArray (0, 0) d hb.is hu hd (by rw [List.size_toArray]; exact hi)]

set_option maxRecDepth 100000
theorem mPushH (x : Value) (W : World) : (method 486 244 x "pacemaker/shaper.push").run Tryz.prog W = .ok (185, x) W := by kernel_rfl
theorem mPushQ (x : Value) (W : World) : (method 486 254 x "pacemaker/shaper.push").run Tryz.prog W = .ok (225, x) W := by kernel_rfl
theorem mPeekH (x : Value) (W : World) : (method 486 244 x "pacemaker/shaper.peek").run Tryz.prog W = .ok (183, x) W := by kernel_rfl
theorem mPeekQ (x : Value) (W : World) : (method 486 254 x "pacemaker/shaper.peek").run Tryz.prog W = .ok (223, x) W := by kernel_rfl
theorem mPopH (x : Value) (W : World) : (method 486 244 x "pacemaker/shaper.pop").run Tryz.prog W = .ok (184, x) W := by kernel_rfl
theorem mPopQ (x : Value) (W : World) : (method 486 254 x "pacemaker/shaper.pop").run Tryz.prog W = .ok (224, x) W := by kernel_rfl
structure BkC (t : TypeId) (x : Value) (gu ge gp : Nat) : Prop where
  mu : ∀ W, (method 486 t x "pacemaker/shaper.push").run Tryz.prog W = .ok (gu, x) W
  me : ∀ W, (method 486 t x "pacemaker/shaper.peek").run Tryz.prog W = .ok (ge, x) W
  mp : ∀ W, (method 486 t x "pacemaker/shaper.pop").run Tryz.prog W = .ok (gp, x) W
  cu : ∀ args W, (callFunc gu args).run Tryz.prog W = .ok (.enter gu args) W
  ce : ∀ args W, (callFunc ge args).run Tryz.prog W = .ok (.enter ge args) W
  cp : ∀ args W, (callFunc gp args).run Tryz.prog W = .ok (.enter gp args) W
  push : ∀ W F room s r fl id ln, BkM W F (.iface t x) room s → (bkItems s).length < room → bkN s < 9223372036854775807 → r < 18446744073709551616 →
    Calls Tryz.prog gu #[x, .int .u64 (r : Nat), .agg #[.int .u32 (fl : Nat), .int .u32 (id : Nat), .int .u64 (ln : Nat)]] W fun e w' => e = .returned (.tuple #[]) ∧ ∃ F', BkM w' F' (.iface t x) room (bkPush s r ⟨fl, id, ln⟩) ∧ Kp F W w' ∧ Nw W F F'
  peek : ∀ W F room s, BkM W F (.iface t x) room s →
    Calls Tryz.prog ge #[x] W fun e w' => e = .returned (.tuple #[.int .u64 (bkPeek s).1.rank, .agg #[.int .u32 (bkPeek s).1.x.flow, .int .u32 (bkPeek s).1.x.id, .int .u64 (bkPeek s).1.x.len], .bool (bkPeek s).2]) ∧ ∃ F', BkM w' F' (.iface t x) room s ∧ Kp F W w' ∧ Nw W F F'
  pop : ∀ W F room s, BkM W F (.iface t x) room s → (bkPeek s).2 = true →
    Calls Tryz.prog gp #[x] W fun e w' => e = .returned (.tuple #[]) ∧ ∃ F', BkM w' F' (.iface t x) room (bkPop s) ∧ Kp F W w' ∧ Nw W F F'
theorem bkm_hp {w : World} {F : Nat → Prop} {room : Nat} {b : Nat} {s : BkS} (h : BkM w F (hpV b) room s) : ∃ n S, s = .hp n S ∧ Hp w F b room n S := by
  cases s with
  | hp n S =>
    obtain ⟨b', e, h⟩ := h
    unfold hpV at e
    injection e with _ e
    injection e with e
    have e : (⟨b, 0, none⟩ : Addr) = ⟨b', 0, none⟩ := by simpa using e
    injection e with e
    subst e
    exact ⟨n, S, rfl, h⟩
  | qu bs Qs =>
    obtain ⟨b', e, h⟩ := h
    unfold hpV quV at e
    injection e with e _
    exact absurd e (by decide)
theorem bkm_qu {w : World} {F : Nat → Prop} {room : Nat} {b : Nat} {s : BkS} (h : BkM w F (quV b) room s) : ∃ bs Qs, s = .qu bs Qs ∧ Qu w F b room bs Qs := by
  cases s with
  | hp n S =>
    obtain ⟨b', e, h⟩ := h
    unfold hpV quV at e
    injection e with e _
    exact absurd e (by decide)
  | qu bs Qs =>
    obtain ⟨b', e, h⟩ := h
    unfold quV at e
    injection e with _ e
    injection e with e
    have e : (⟨b, 0, none⟩ : Addr) = ⟨b', 0, none⟩ := by simpa using e
    injection e with e
    subst e
    exact ⟨bs, Qs, rfl, h⟩
theorem bkH (b : Nat) : BkC 244 (.agg #[.pointer (some ⟨b, 0, none⟩)]) 185 183 184 where
  mu := mPushH _
  me := mPeekH _
  mp := mPopH _
  cu := fun _ _ => by kernel_rfl
  ce := fun _ _ => by kernel_rfl
  cp := fun _ _ => by kernel_rfl
  push := fun W F room s r fl id ln h hl hn hr => by
    obtain ⟨n, S, rfl, hp⟩ := bkm_hp h
    refine (wPushH (Q := fun w' => ∃ F', Hp w' F' b room (n + 1) (insE S ⟨r, n, ⟨fl, id, ln⟩⟩) ∧ Kp F W w' ∧ Nw W F F') (fun W2 k => (hpPush (hp.old k) (by simpa [bkItems] using hl) hn r fl id ln).mono fun e w' ⟨a, F', b1, b2, b3⟩ => ⟨⟨_, a⟩, F', b1, (k.mono (fun _ _ x => x.elim)).trans b2, fun z hz => (b3 z hz).imp_right (fun h => Nat.le_trans k.size h)⟩)).mono ?_
    rintro e w' ⟨rfl, F', h1, h2, h3⟩
    exact ⟨rfl, F', ⟨b, rfl, h1⟩, h2, h3⟩
  peek := fun W F room s h => by
    obtain ⟨n, S, rfl, hp⟩ := bkm_hp h
    have e0 := peek_hp n S
    have e1 : (bkPeek (.hp n S)).1 = ⟨(peekH S).1.rank, (peekH S).1.x⟩ := by rw [e0]
    have e2 : (bkPeek (.hp n S)).2 = (peekH S).2 := by rw [e0]
    rw [e1, e2]
    refine (wPeekH (fun W2 k => hpPeek (hp.old k))).mono ?_
    rintro e w' ⟨rfl, hk⟩
    exact ⟨rfl, F, ⟨b, rfl, hp.old hk⟩, hk.mono (fun _ _ x => x.elim), Nw.refl _ _⟩
  pop := fun W F room s h hs => by
    obtain ⟨n, S, rfl, hp⟩ := bkm_hp h
    cases S with
    | nil => cases hs
    | cons x S =>
      refine (wPopH (Q := fun w' => Hp w' F b room n S ∧ Kp F W w') (fun W2 k => (hpPop (hp.old k)).mono fun e w' ⟨a, b1, b2⟩ => ⟨⟨_, _, _, a⟩, b1, (k.mono (fun _ _ x => x.elim)).trans b2⟩)).mono ?_
      rintro e w' ⟨rfl, h1, h2⟩
      exact ⟨rfl, F, ⟨b, rfl, h1⟩, h2, Nw.refl _ _⟩
theorem bkQ (b : Nat) : BkC 254 (.agg #[.pointer (some ⟨b, 0, none⟩)]) 225 223 224 where
  mu := mPushQ _
  me := mPeekQ _
  mp := mPopQ _
  cu := fun _ _ => by kernel_rfl
  ce := fun _ _ => by kernel_rfl
  cp := fun _ _ => by kernel_rfl
  push := fun W F room s r fl id ln h hl hn hr => by
    obtain ⟨bs, Qs, rfl, hp⟩ := bkm_qu h
    rw [tot_items] at hl
    refine (wPushQ (Q := fun w' => ∃ F', Qu w' F' b room (pushB bs r) (pushQ bs Qs r ⟨r, ⟨fl, id, ln⟩⟩) ∧ Kp F W w' ∧ Nw W F F') (fun W2 k => (qPush (hp.old k) hl r fl id ln hr).mono fun e w' ⟨a, F', b1, b2, b3⟩ => ⟨⟨_, a⟩, F', b1, (k.mono (fun _ _ x => x.elim)).trans b2, fun z hz => (b3 z hz).imp_right (fun h => Nat.le_trans k.size h)⟩)).mono ?_
    rintro e w' ⟨rfl, F', h1, h2, h3⟩
    exact ⟨rfl, F', ⟨b, rfl, h1⟩, h2, h3⟩
  peek := fun W F room s h => by
    obtain ⟨bs, Qs, rfl, hp⟩ := bkm_qu h
    rw [peek_qu]
    refine (wPeekQ (fun W2 k => by obtain ⟨v1, v2, ps, Fs, rfl, hm⟩ := hp.old k; exact qPeek hm)).mono ?_
    rintro e w' ⟨rfl, hk⟩
    exact ⟨rfl, F, ⟨b, rfl, hp.old hk⟩, hk.mono (fun _ _ x => x.elim), Nw.refl _ _⟩
  pop := fun W F room s h hs => by
    obtain ⟨bs, Qs, rfl, hp⟩ := bkm_qu h
    rw [peek_qu] at hs
    unfold peekQ at hs
    cases hf : fstQ Qs with
    | none => rw [hf] at hs; cases hs
    | some i =>
      obtain ⟨q, Q, h1, h2⟩ := fstQ_some hf
      have e1 : popQ Qs = Qs.set i Q := by unfold popQ; rw [hf]; simp only [List.getD_eq_getElem?_getD, h1, Option.getD_some, List.tail_cons]
      show Calls _ _ _ _ fun e w' => _ ∧ ∃ F', BkM w' F' _ room (.qu bs (popQ Qs)) ∧ _
      rw [e1]
      refine (wPopQ (Q := fun w' => Qu w' F b room bs (Qs.set i Q) ∧ Kp F W w') (fun W2 k => (qPop (hp.old k) hf h1).mono fun e w' ⟨a, b1, b2⟩ => ⟨⟨_, _, _, a⟩, b1, (k.mono (fun _ _ x => x.elim)).trans b2⟩)).mono ?_
      rintro e w' ⟨rfl, h3, h4⟩
      exact ⟨rfl, F, ⟨b, rfl, h3⟩, h4, Nw.refl _ _⟩
theorem BkM.c {w : World} {F : Nat → Prop} {v : Value} {room : Nat} {s : BkS} (h : BkM w F v room s) : ∃ t x gu ge gp, v = .iface t x ∧ BkC t x gu ge gp := by
  cases s with
  | hp n S => obtain ⟨b, rfl, _⟩ := h; exact ⟨_, _, _, _, _, rfl, bkH b⟩
  | qu bs Qs => obtain ⟨b, rfl, _⟩ := h; exact ⟨_, _, _, _, _, rfl, bkQ b⟩
end Go.Proofs.YtfckgddodjmbdaaGreatDoor

namespace Go.Proofs.YtfckgddodjmbdaaGreatDoor
set_option linter.unusedVariables false
set_option linter.unusedSimpArgs false
open Go.ChangeShapes Go.WideShapes Go.ChangeAt Go.RowKit
structure OpR where
  kind : Int
  flow : Nat
  id : Nat
  len : Nat
  ticks : Nat
def enO (o : OpR) : List Value := [.int .i64 o.kind, .int .u32 o.flow, .int .u32 o.id, .int .u64 o.len, .int .u64 o.ticks]
structure OpR.ok (o : OpR) : Prop where
  kind : -9223372036854775808 ≤ o.kind ∧ o.kind ≤ 9223372036854775807
  flow : o.flow < 4294967296
  id : o.id < 4294967296
  len : o.len < 18446744073709551616
  ticks : o.ticks < 18446744073709551616
instance : Inhabited OpR := ⟨⟨0, 0, 0, 0, 0⟩⟩
theorem OpR.ext_iff' (o p : OpR) : (o.kind = p.kind ∧ o.flow = p.flow ∧ o.id = p.id ∧ o.len = p.len ∧ o.ticks = p.ticks) ↔ o = p := by
  obtain ⟨a, b, c, d, e⟩ := o
  obtain ⟨a', b', c', d', e'⟩ := p
  simp only [OpR.mk.injEq]
instance : DecidableEq OpR := fun o p => decidable_of_iff _ (OpR.ext_iff' o p)
section
variable {H : Type} {enc : TypeId × Value → H} {w : World} {base : Nat} {spare : Nat → Bool} {held : Bool}
end
end Go.Proofs.YtfckgddodjmbdaaGreatDoor

namespace Go.Proofs.YtfckgddodjmbdaaGreatDoor
set_option linter.unusedVariables false
set_option linter.unusedSimpArgs false
open Go Go.RowKit Go.Shelf
def zSt : List Value := [.int .u64 0, .int .u64 0, .int .i64 0, .int .u64 0] ++ List.replicate 32 (.int .u64 0)
def rpC (kind code : Int) (fl id ln rank : Nat) (st : List Value) : List Value := [.int .i64 kind, .int .i64 code, .int .u32 fl, .int .u32 id, .int .u64 ln, .int .u64 rank] ++ st
theorem infoRp : (Tryz.prog.info? 67).map (·.size) = some 42 := by kernel_rfl
def refS (s : Sh) (k : Nat) : Sh := { s with ref := s.ref.set k (satN (s.ref.getD k 0) 1) }
def enqS (s : Sh) (fl id ln : Nat) : List Value × Sh :=
  if mayG s.g fl ln = 0 then
    (rpC 1 0 fl id ln (nextR s.r s.now fl ln).1 zSt, { s with g := inG s.g fl ln, r := (nextR s.r s.now fl ln).2, bk := bkPush s.bk (nextR s.r s.now fl ln).1 ⟨fl, id, ln⟩ })
  else (rpC 1 (mayG s.g fl ln) fl id ln 0 zSt, refS s (mayG s.g fl ln).toNat)
def deqS (s : Sh) : List Value × Sh :=
  if (bkPeek s.bk).2 = false then (rpC 2 18 0 0 0 0 zSt, s)
  else if s.tok < (bkPeek s.bk).1.x.len then (rpC 2 19 0 0 0 0 zSt, s)
  else (rpC 2 0 (bkPeek s.bk).1.x.flow (bkPeek s.bk).1.x.id (bkPeek s.bk).1.x.len (bkPeek s.bk).1.rank zSt,
    { s with tok := s.tok - (bkPeek s.bk).1.x.len, bk := bkPop s.bk, g := outG s.g (bkPeek s.bk).1.x.flow (bkPeek s.bk).1.x.len, r := sentR s.r (bkPeek s.bk).1.rank })
def statsC (s : Sh) : List Value := [.int .u64 s.now, .int .u64 s.tok, .int .i64 (sumP s.g.st), .int .u64 (sumB s.g.st)] ++ s.ref.map eN8
def doS (s : Sh) (o : OpR) : List Value × Sh :=
  if o.kind = 1 then enqS s o.flow o.id o.len
  else if o.kind = 2 then deqS s
  else if o.kind = 3 then (rpC 3 0 0 0 0 0 zSt, { s with now := satN s.now o.ticks, tok := tickB s.rate s.burst s.tok o.ticks })
  else if o.kind = 4 then (rpC 4 0 0 0 0 0 (statsC s), s)
  else if o.kind = 5 then (rpC 5 2 0 0 0 0 zSt, refS s 2)
  else (rpC 0 1 0 0 0 0 zSt, refS s 1)
theorem sumP_lay {g : Ga} (ok : g.Ok) {id n : Nat} (h0 : 0 ≤ g.at id) : sumP (g.lay id n).st = sumP g.st + 1 := by
  obtain ⟨h1, h2⟩ := ok.x_get h0
  show sumP (g.st.set _ _) = _
  rw [sumP_set _ _ _ h1, ← h2]
  show sumP g.st - (g.x id).p + ((g.x id).p + 1) = _
  omega
theorem sumP_out {g : Ga} (ok : g.Ok) (id n : Nat) : sumP g.st - 1 ≤ sumP (outG g id n).st := by
  unfold outG
  split
  · rename_i h
    obtain ⟨h0, _, _⟩ := out_zero h
    obtain ⟨h1, h2⟩ := ok.x_get h0
    show _ ≤ sumP (g.st.set _ _)
    rw [sumP_set _ _ _ h1, ← h2]
    show _ ≤ sumP g.st - (g.x id).p + ((g.x id).p - 1)
    omega
  · omega
theorem c_in (g : Ga) (id n : Nat) : (inG g id n).c = g.c := by unfold inG Ga.lay Ga.put; split <;> rfl
theorem c_out (g : Ga) (id n : Nat) : (outG g id n).c = g.c := by unfold outG Ga.put; split <;> rfl
theorem fl_next (r : Rk) (now id n : Nat) : (nextR r now id n).2.fl = r.fl := by unfold nextR Rk.setTag; split; rfl; split <;> rfl
theorem fl_sent (r : Rk) (x : Nat) : (sentR r x).fl = r.fl := by unfold sentR; split <;> rfl
theorem nextR_lt {r : Rk} (h : r.Ok) (now id n : Nat) : (nextR r now id n).1 < 18446744073709551616 := by
  unfold nextR
  have h1 := h.tag id
  have h2 := h.vok
  split
  · show max _ _ < _; omega
  · split
    · exact satN_lt _ _
    · exact h1
theorem ref_lt {l : List Nat} (h : ∀ x ∈ l, x < 18446744073709551616) (k : Nat) : ∀ x ∈ l.set k (satN (l.getD k 0) 1), x < 18446744073709551616 := by
  intro x hx
  rcases List.mem_or_eq_of_mem_set hx with h1 | h1
  · exact h x h1
  · rw [h1]; exact satN_lt _ _
theorem refS_ok {s : Sh} (h : s.Ok) (k : Nat) : (refS s k).Ok :=
  { h with ref := ref_lt h.ref k, len := by show (s.ref.set k _).length = 32; rw [List.length_set]; exact h.len }
theorem may_room {g : Ga} {id n : Nat} (h : mayG g id n = 0) : sumP g.st < g.c.packets := (fit_zero (may_fit h)).2.2.2.1
theorem enq_ok {s : Sh} (h : s.Ok) (hg : s.g.Ok) (hr : s.r.Ok) {fl id ln : Nat} (hf : fl < 4294967296) (hi : id < 4294967296) (hl : ln < 18446744073709551616) : (enqS s fl id ln).2.Ok := by
  unfold enqS
  split
  · rename_i hm
    have hp := push_items h.wf (nextR s.r s.now fl ln).1 ⟨fl, id, ln⟩
    have h0 := (lay_ok hg (may_fit hm)).1
    have hi : inG s.g fl ln = s.g.lay fl ln := by unfold inG; rw [if_pos hm]
    exact { h with
      wf := push_wf h.wf _ _
      fl := by show (nextR _ _ _ _).2.fl = (inG _ _ _).c.flows; rw [fl_next, c_in]; exact h.fl
      its := fun i hi => by
        rcases List.mem_cons.1 (hp.mem_iff.1 hi) with e | e
        · subst e; exact ⟨nextR_lt hr _ _ _, hf, by assumption, hl⟩
        · exact h.its i e
      tot := by
        show ((bkItems (bkPush s.bk _ _)).length : Int) ≤ sumP (inG s.g fl ln).st
        rw [hp.length_eq, hi, sumP_lay hg h0, List.length_cons]
        have := h.tot
        omega }
  · exact refS_ok h _
theorem deq_ok {s : Sh} (h : s.Ok) (hg : s.g.Ok) : (deqS s).2.Ok := by
  unfold deqS
  split
  · exact h
  · split
    · exact h
    · rename_i h1 h2
      have e := pop_items s.bk
      exact { h with
        tok := by show s.tok - _ ≤ s.burst; have := h.tok; omega
        wf := pop_wf h.wf
        fl := by show (sentR _ _).fl = (outG _ _ _).c.flows; rw [fl_sent, c_out]; exact h.fl
        its := fun i hi => h.its i (List.mem_of_mem_tail (by rw [← e]; exact hi))
        tot := by
          show ((bkItems (bkPop s.bk)).length : Int) ≤ sumP (outG s.g _ _).st
          have h3 := sumP_out hg (bkPeek s.bk).1.x.flow (bkPeek s.bk).1.x.len
          have h4 := h.tot
          have h5 : bkItems s.bk ≠ [] := fun e => by unfold bkPeek at h1; rw [e] at h1; exact h1 rfl
          have h6 := List.length_pos_iff.2 h5
          rw [e, List.length_tail]
          omega }
end Go.Proofs.YtfckgddodjmbdaaGreatDoor

namespace Go.Proofs.YtfckgddodjmbdaaGreatDoor
set_option linter.unusedVariables false
set_option linter.unusedSimpArgs false
def rightB (a : Nat) (b : Int) : Bool := decide (0 ≤ b) && decide (b ≤ 32) && decide (a % 2 ^ (32 - b.toNat) = 0)
def hasB (a : Nat) (b : Int) (x : Nat) : Bool := rightB a b && decide (x / 2 ^ (32 - b.toNat) = a / 2 ^ (32 - b.toNat))
def covB (a : Nat) (b : Int) (a' : Nat) (b' : Int) : Bool := rightB a' b' && decide (b ≤ b') && hasB a b a'
theorem rightB_iff {a : Nat} {b : Int} : rightB a b = true ↔ 0 ≤ b ∧ b ≤ 32 ∧ a % 2 ^ (32 - b.toNat) = 0 := by unfold rightB; simp [and_assoc]
theorem hasB_iff {a : Nat} {b : Int} {x : Nat} : hasB a b x = true ↔ rightB a b = true ∧ x / 2 ^ (32 - b.toNat) = a / 2 ^ (32 - b.toNat) := by unfold hasB; simp
theorem covB_iff {a : Nat} {b : Int} {a' : Nat} {b' : Int} : covB a b a' b' = true ↔ rightB a' b' = true ∧ b ≤ b' ∧ hasB a b a' = true := by unfold covB; simp [and_assoc]
theorem pow_split {b b' : Int} (h0 : 0 ≤ b) (h : b ≤ b') (h1 : b' ≤ 32) : 2 ^ (32 - b.toNat) = 2 ^ (32 - b'.toNat) * 2 ^ (b'.toNat - b.toNat) := by
  rw [← Nat.pow_add]; congr 1; omega
theorem top_of {b b' : Int} (h0 : 0 ≤ b) (h : b ≤ b') (h1 : b' ≤ 32) {x y : Nat} (e : x / 2 ^ (32 - b'.toNat) = y / 2 ^ (32 - b'.toNat)) : x / 2 ^ (32 - b.toNat) = y / 2 ^ (32 - b.toNat) := by
  rw [pow_split h0 h h1, ← Nat.div_div_eq_div_mul, ← Nat.div_div_eq_div_mul, e]
theorem one_of {a a' x : Nat} {b b' : Int} (h : hasB a b x = true) (h' : hasB a' b' x = true) (hb : b ≤ b') : covB a b a' b' = true := by
  rw [hasB_iff, rightB_iff] at h h'
  rw [covB_iff, hasB_iff, rightB_iff, rightB_iff]
  refine ⟨h'.1, hb, h.1, ?_⟩
  have := top_of h.1.1 hb h'.1.2.1 h'.2
  rw [← this]; exact h.2
theorem has_of {a a' x : Nat} {b b' : Int} (h : covB a b a' b' = true) (h' : hasB a' b' x = true) : hasB a b x = true := by
  rw [covB_iff, hasB_iff, rightB_iff, rightB_iff] at h
  rw [hasB_iff, rightB_iff] at h'
  rw [hasB_iff, rightB_iff]
  exact ⟨h.2.2.1, (top_of h.2.2.1.1 h.2.1 h'.1.2.1 h'.2).trans h.2.2.2⟩
end Go.Proofs.YtfckgddodjmbdaaGreatDoor
