/- What the functions of package flow compute, at things of kind own: New, Len; a table that nobody made. -/
import Derived.Test.YtfckgddodjmbdaaGreatDoorMPortNobodyF14
import Derived.Test.YtfckgddodjmbdaaGreatDoorMPortNobodyF4
import Derived.Test.YtfckgddodjmbdaaGreatDoorMPortNobodyF7
import Derived.Test.YtfckgddodjmbdaaGreatDoorMPortNobodyF8
namespace Go.Proofs.YtfckgddodjmbdaaGreatDoor.flowOwn
set_option linter.unusedVariables false
set_option linter.unusedSimpArgs false
open Go.RowKit Go.Proofs.YtfckgddodjmbdaaGreatDoor

theorem TOk.new (room : Nat) (h1 : 1 ≤ room) (h2 : room ≤ 4096) : TOk (List.replicate 8 none) 0 room :=
  ⟨⟨3, by decide, rfl⟩, FInv.nil 8 (fun id => homeN_lt 8 id (by decide)), by rw [ents_nil]; rfl, by decide, Nat.zero_le _, h1, h2, fun e h => (by rw [ents_nil] at h; cases h), by decide, by decide⟩
set_option maxRecDepth 100000 in
set_option maxHeartbeats 4000000 in
theorem fNew (room : Nat) (h1 : 1 ≤ room) (h2 : room ≤ 4096) (w : World) : Calls Tryz.prog 113 #[.int .i64 room] w fun e w' => ∃ tb sb, e = .returned (.tuple #[.pointer (some ⟨tb, 0, none⟩), .int .i64 0]) ∧ TMem w' tb sb (List.replicate 8 none) 0 room ∧ w.heap.size ≤ tb ∧ w.heap.size ≤ sb ∧ Kp none' w w' := by
  have hmk := run_make_flat tSl enS enS_len none rfl 8 (by omega) (by omega) w
  have d1 : ¬ (room : Int) < 1 := by omega
  have d2 : ¬ (4096 : Int) < room := by omega
  have hmk2 : (Instr.makeSlice 276 (.int .i64 8) (.int .i64 8)).run Tryz.prog w = .ok (.slice (some ⟨w.heap.size, 0, none⟩) 8 8) (w.alloc (.cells ((List.replicate 8 (none : Option (Nat × Th))).flatMap enS).toArray 275)) := hmk
  obtain ⟨L0, hL0⟩ : ∃ L0, (List.replicate 8 (none : Option (Nat × Th))).flatMap enS = L0 := ⟨_, rfl⟩
  have HM : Hid (TMem ((w.alloc (.cells L0.toArray 275)).alloc (.cells #[.slice (some ⟨w.heap.size, 0, none⟩) 8 8, .int .i64 0, .int .i64 room] 278)) (w.heap.size + 1) w.heap.size (List.replicate 8 none) 0 room) := by
    have h1 := Blk.new (w.alloc (.cells L0.toArray 275)) [.slice (some ⟨w.heap.size, 0, none⟩) 8 8, .int .i64 0, .int .i64 room] 278
    rw [World.size_alloc] at h1
    exact ⟨h1, by rw [hL0]; exact (Blk.new w L0 _).alloc _⟩
  have HK : Hid (Kp none' w ((w.alloc (.cells L0.toArray 275)).alloc (.cells #[.slice (some ⟨w.heap.size, 0, none⟩) 8 8, .int .i64 0, .int .i64 room] 278))) := ((Kp.refl _ _).alloc _).alloc _
  rw [hL0] at hmk2
  clear hmk hL0
  go_enter Tryz.func113, Tryz.ntmps113
  go_wp2
  go_ret2
  exact ⟨w.heap.size + 1, rfl, w.heap.size, HM.out, by omega, by omega, HK.out⟩

theorem ents_keys {hm : Nat → Nat} {S : Slots Th} (h : FInv hm S) : ((entsF S).map (·.1)).Nodup := by
  unfold entsF List.Nodup
  rw [List.pairwise_map, List.pairwise_filterMap, List.pairwise_iff_getElem]
  intro i j hi hj hij x hx y hy e
  simp only [id] at hx hy
  have tx : tAt S i = some (x.1, x.2) := by unfold tAt; rw [List.getD_eq_getElem?_getD, List.getElem?_eq_getElem hi, hx]; rfl
  have ty : tAt S j = some (x.1, y.2) := by unfold tAt; rw [List.getD_eq_getElem?_getD, List.getElem?_eq_getElem hj, hy, e]; rfl
  have := h.one i j x.1 x.2 y.2 hi hj tx ty
  omega
theorem none_at {S : Slots Th} {n room id d : Nat} (ok : TOk S n room) (f : FAt (homeN S.length) S id d) (hn : ∀ y, (id, y) ∉ entsF S) : tAt S (ad S.length (homeN S.length id) d) = none := by
  rcases f.fin with h | ⟨y, h⟩
  · exact h
  · exact absurd ((f.some_there ok.inv y).1 h) (hn y)

/-- At tb lies a table that has E; its blocks are F. -/
def Tf (w : World) (F : Nat → Prop) (tb room : Nat) (E : List (Nat × Th)) : Prop := ∃ sb S n, F = (fun b => b = tb ∨ b = sb) ∧ TMem w tb sb S n room ∧ TOk S n room ∧ (entsF S).Perm E
theorem Tf.kp {T : Nat → Prop} {w w' : World} {F : Nat → Prop} {tb room : Nat} {E : List (Nat × Th)} (h : Tf w F tb room E) (k : Kp T w w') (hT : ∀ b, F b → ¬ T b) : Tf w' F tb room E := by
  obtain ⟨sb, S, n, rfl, hm, ok, hp⟩ := h
  exact ⟨sb, S, n, rfl, hm.kp k (hT _ (.inl rfl)) (hT _ (.inr rfl)), ok, hp⟩
theorem Tf.old {w w' : World} {F : Nat → Prop} {tb room : Nat} {E : List (Nat × Th)} (h : Tf w F tb room E) (k : Kp none' w w') : Tf w' F tb room E := h.kp k (fun _ _ x => x)
theorem Tf.lt {w : World} {F : Nat → Prop} {tb room : Nat} {E : List (Nat × Th)} (h : Tf w F tb room E) {b : Nat} (hb : F b) : b < w.heap.size := by
  obtain ⟨sb, S, n, rfl, hm, ok, hp⟩ := h
  rcases hb with rfl | rfl
  · exact hm.top.lt
  · exact hm.cel.lt
theorem Tf.mem {w : World} {F : Nat → Prop} {tb room : Nat} {E : List (Nat × Th)} (h : Tf w F tb room E) : ∀ e ∈ E, e.1 < 4294967296 := by
  obtain ⟨sb, S, n, _, hm, ok, hp⟩ := h
  exact fun e he => ok.ids e (hp.mem_iff.2 he)
theorem bNew (room : Nat) (h1 : 1 ≤ room) (h2 : room ≤ 4096) (w : World) : Calls Tryz.prog 113 #[.int .i64 room] w fun e w' => ∃ F tb, e = .returned (.tuple #[.pointer (some ⟨tb, 0, none⟩), .int .i64 0]) ∧ Tf w' F tb room [] ∧ (∀ b, F b → w.heap.size ≤ b) ∧ Kp none' w w' :=
  (fNew room h1 h2 w).mono fun e w' ⟨tb, sb, he, hm, hb1, hb2, hk⟩ => ⟨_, tb, he, ⟨sb, _, 0, rfl, hm, TOk.new room h1 h2, by rw [ents_nil]⟩, fun b hb => by rcases hb with rfl | rfl <;> assumption, hk⟩
theorem bPutNew {w : World} {F : Nat → Prop} {tb room : Nat} {E : List (Nat × Th)} (h : Tf w F tb room E) (id : Nat) (hid : id < 4294967296) (x : Th) (hn : ∀ y, (id, y) ∉ E) (hr : E.length < room) :
    Calls Tryz.prog 114 #[.pointer (some ⟨tb, 0, none⟩), .int .u32 id, en x] w fun e w' => e = .returned (.int .i64 0) ∧ ∃ F', Tf w' F' tb room ((id, x) :: E) ∧ Kp F w w' ∧ Nw w F F' := by
  obtain ⟨sb, S, n, rfl, hm, ok, hp⟩ := h
  obtain ⟨d, f⟩ := FAt.there (hm := homeN S.length) (fun id => homeN_lt _ _ ok.pw.pos) id ok.free
  have hl := hp.length_eq
  rw [ok.cnt] at hl
  refine (fPutNew w tb sb S n room hm ok id hid d f (none_at ok f (fun y hy => hn y (hp.mem_iff.1 hy))) x (by omega)).mono ?_
  rintro e w' ⟨he, sb', S', hm', ok', hp', hk, hs⟩
  refine ⟨he, _, ⟨sb', S', n + 1, rfl, hm', ok', hp'.trans (List.Perm.cons _ hp)⟩, hk, fun b hb => ?_⟩
  rcases hb with rfl | rfl
  · exact .inl (.inl rfl)
  · rcases hs with rfl | hs
    · exact .inl (.inr rfl)
    · exact .inr hs
theorem bGet {w : World} {F : Nat → Prop} {tb room : Nat} {E : List (Nat × Th)} (h : Tf w F tb room E) (id : Nat) (hid : id < 4294967296) (x : Th) (hx : (id, x) ∈ E) : Calls Tryz.prog 105 #[.pointer (some ⟨tb, 0, none⟩), .int .u32 id] w fun e w' => e = .returned (.tuple #[en x, .bool true]) ∧ Kp none' w w' := by
  obtain ⟨sb, S, n, _, hm, ok, hp⟩ := h
  obtain ⟨d, f⟩ := FAt.there (hm := homeN S.length) (fun id => homeN_lt _ _ ok.pw.pos) id ok.free
  exact fGetSome w tb sb S n room hm ok id hid d f x ((f.some_there ok.inv x).2 (hp.mem_iff.2 hx))
theorem bGetNone {w : World} {F : Nat → Prop} {tb room : Nat} {E : List (Nat × Th)} (h : Tf w F tb room E) (id : Nat) (hid : id < 4294967296) (hn : ∀ y, (id, y) ∉ E) : Calls Tryz.prog 105 #[.pointer (some ⟨tb, 0, none⟩), .int .u32 id] w fun e w' => e = .returned (.tuple #[en zx, .bool false]) ∧ Kp none' w w' := by
  obtain ⟨sb, S, n, _, hm, ok, hp⟩ := h
  obtain ⟨d, f⟩ := FAt.there (hm := homeN S.length) (fun id => homeN_lt _ _ ok.pw.pos) id ok.free
  exact fGetNone w tb sb S n room hm ok id hid d f (none_at ok f (fun y hy => hn y (hp.mem_iff.1 hy)))
end Go.Proofs.YtfckgddodjmbdaaGreatDoor.flowOwn

namespace Go.Proofs.YtfckgddodjmbdaaGreatDoor
set_option linter.unusedVariables false
set_option linter.unusedSimpArgs false
open flowOwn (Th)

/-- A number doubled some times, as far as numbers go. -/
def shN (a s : Nat) : Nat := if a * 2 ^ s < 18446744073709551616 then a * 2 ^ s else 18446744073709551615
/-- A gate: its configuration, and what waits, flow by flow. -/
structure Ga where
  c : CfR
  st : List Th
def sumP (l : List Th) : Int := (l.map (·.p)).sum
def sumB (l : List Th) : Nat := (l.map (·.b)).sum
def tabE (l : List FlR) (st : List Th) : List (Nat × Th) := (l.zip st).map (fun e => (e.1.id, e.2))
structure Ga.Ok (g : Ga) : Prop where
  cok : g.c.ok
  adm : admE g.c = 0
  len : g.st.length = g.c.flows.length
  caps : ∀ (i : Nat) (x : Th) (f : FlR), g.st[i]? = some x → g.c.flows[i]? = some f → x.m = f.cap
  own : ∀ x ∈ g.st, 0 ≤ x.p ∧ x.b ≤ x.m
  bts : sumB g.st ≤ g.c.bytes
  pks : sumP g.st ≤ g.c.packets
theorem Ga.Ok.lims {g : Ga} (h : g.Ok) : 1 ≤ g.c.packets ∧ g.c.packets ≤ 4096 ∧ 0 ≤ g.c.share ∧ g.c.share ≤ 16 ∧ 1 ≤ g.c.mtu ∧ g.c.mtu ≤ 65535 ∧ flowsE g.c.flows = 0 := by
  have := h.adm
  unfold admE at this
  split at this
  · omega
  · split at this
    · omega
    · split at this
      · omega
      · omega
theorem Ga.Ok.nod {g : Ga} (h : g.Ok) : (g.c.flows.map (·.id)).Nodup ∧ 1 ≤ g.c.flows.length ∧ g.c.flows.length ≤ 64 := by
  have := h.lims.2.2.2.2.2.2
  unfold flowsE at this
  split at this
  · omega
  · split at this
    · rename_i h1 h2; exact ⟨h2, by omega, by omega⟩
    · omega
def Ga.at (g : Ga) (id : Nat) : Int := findF g.c.flows id
def Ga.x (g : Ga) (id : Nat) : Th := (g.st[(g.at id).toNat]?).getD ⟨0, 0, 0⟩
def fitG (g : Ga) (id n : Nat) : Int :=
  if n = 0 ∨ g.c.mtu < n then 12 else if g.at id < 0 then 13 else if g.c.packets ≤ sumP g.st then 14 else if g.c.bytes - sumB g.st < n then 15
  else if (g.x id).m - (g.x id).b < n then 16 else 0
def mayG (g : Ga) (id n : Nat) : Int :=
  if fitG g id n ≠ 0 then fitG g id n else if shN (g.c.bytes - sumB g.st) g.c.share.toNat ≤ (g.x id).b then 17 else 0
def Ga.put (g : Ga) (id : Nat) (x : Th) : Ga := { g with st := g.st.set (g.at id).toNat x }
def Ga.lay (g : Ga) (id n : Nat) : Ga := g.put id ⟨(g.x id).p + 1, (g.x id).b + n, (g.x id).m⟩
def inG (g : Ga) (id n : Nat) : Ga := if mayG g id n = 0 then g.lay id n else g
def outE (g : Ga) (id n : Nat) : Int := if g.at id < 0 then 13 else if (g.x id).p = 0 ∨ (g.x id).b < n then 9 else 0
def outG (g : Ga) (id n : Nat) : Ga := if outE g id n = 0 then g.put id ⟨(g.x id).p - 1, (g.x id).b - n, (g.x id).m⟩ else g

theorem sum_set (l : List Int) (i : Nat) (v : Int) (h : i < l.length) : (l.set i v).sum = l.sum - l[i] + v := by
  induction l generalizing i with
  | nil => simp at h
  | cons a r ih =>
    cases i with
    | zero => simp; omega
    | succ i =>
      have := ih i (by simpa using h)
      simp only [List.set_cons_succ, List.sum_cons, List.getElem_cons_succ, this]; omega
theorem sumN_set (l : List Nat) (i : Nat) (v : Nat) (h : i < l.length) : (l.set i v).sum + l[i] = l.sum + v := by
  induction l generalizing i with
  | nil => simp at h
  | cons a r ih =>
    cases i with
    | zero => simp; omega
    | succ i =>
      have := ih i (by simpa using h)
      simp only [List.set_cons_succ, List.sum_cons, List.getElem_cons_succ]; omega
theorem sumP_set (l : List Th) (i : Nat) (x : Th) (h : i < l.length) : sumP (l.set i x) = sumP l - (l[i]).p + x.p := by
  unfold sumP
  rw [List.map_set, sum_set _ _ _ (by simpa using h)]; simp
theorem sumB_set (l : List Th) (i : Nat) (x : Th) (h : i < l.length) : sumB (l.set i x) + (l[i]).b = sumB l + x.b := by
  unfold sumB
  have := sumN_set (l.map (·.b)) i x.b (by simpa using h)
  rw [List.map_set]; simpa using this
theorem mem_le_sumB {l : List Th} {x : Th} (h : x ∈ l) : x.b ≤ sumB l := by
  induction l with
  | nil => cases h
  | cons a r ih =>
    unfold sumB at *
    simp only [List.map_cons, List.sum_cons]
    rcases List.mem_cons.1 h with rfl | h
    · omega
    · have := ih h; omega
theorem mem_le_sumP {l : List Th} (hl : ∀ y ∈ l, 0 ≤ y.p) {x : Th} (h : x ∈ l) : x.p ≤ sumP l := by
  induction l with
  | nil => cases h
  | cons a r ih =>
    have hr : 0 ≤ sumP r := by
      clear ih h
      induction r with
      | nil => simp [sumP]
      | cons b r ih =>
        have h1 := ih (fun y hy => hl y (by simp at hy ⊢; rcases hy with h | h; exact .inl h; exact .inr (.inr h)))
        have h2 := hl b (by simp)
        unfold sumP at *; simp only [List.map_cons, List.sum_cons]; omega
    have ha := hl a (by simp)
    rcases List.mem_cons.1 h with rfl | h
    · unfold sumP at *; simp only [List.map_cons, List.sum_cons]; omega
    · have := ih (fun y hy => hl y (by simp [hy])) h
      unfold sumP at *; simp only [List.map_cons, List.sum_cons]; omega
theorem Ga.Ok.atb {g : Ga} (h : g.Ok) (id : Nat) : -1 ≤ g.at id ∧ g.at id < g.st.length := by
  have := findF_ge g.c.flows id
  have := h.len
  unfold Ga.at; omega
theorem Ga.Ok.x_get {g : Ga} (h : g.Ok) {id : Nat} (h0 : 0 ≤ g.at id) : ∃ h : (g.at id).toNat < g.st.length, g.x id = g.st[(g.at id).toNat] := by
  have := h.atb id
  have h1 : (g.at id).toNat < g.st.length := by omega
  exact ⟨h1, by unfold Ga.x; rw [List.getElem?_eq_getElem h1]; rfl⟩
theorem Ga.Ok.x_mem {g : Ga} (h : g.Ok) {id : Nat} (h0 : 0 ≤ g.at id) : g.x id ∈ g.st := by
  obtain ⟨h1, h2⟩ := h.x_get h0
  rw [h2]; exact List.getElem_mem h1
theorem Ga.Ok.put {g : Ga} (h : g.Ok) {id : Nat} (h0 : 0 ≤ g.at id) (x : Th) (hm : x.m = (g.x id).m) (hp : 0 ≤ x.p) (hb : x.b ≤ x.m) (hs : sumB g.st - (g.x id).b + x.b ≤ g.c.bytes) (hk : sumP g.st - (g.x id).p + x.p ≤ g.c.packets) : (g.put id x).Ok := by
  obtain ⟨h1, h2⟩ := h.x_get h0
  have h3 := sumB_set g.st _ x h1
  have h4 := sumP_set g.st _ x h1
  have h5 := mem_le_sumB (h.x_mem h0)
  rw [← h2] at h3 h4
  refine ⟨h.cok, h.adm, by show (g.st.set _ _).length = _; rw [List.length_set]; exact h.len, fun i y f hi hf => ?_, fun y hy => ?_, by show sumB (g.st.set _ _) ≤ g.c.bytes; omega, by show sumP (g.st.set _ _) ≤ g.c.packets; rw [h4]; exact hk⟩
  · have hi : (g.st.set (g.at id).toNat x)[i]? = some y := hi
    have hf : g.c.flows[i]? = some f := hf
    by_cases e : (g.at id).toNat = i
    · subst e
      rw [List.getElem?_set_self h1] at hi
      injection hi with hi
      subst hi
      rw [hm]
      exact h.caps _ _ f (by rw [h2]; exact List.getElem?_eq_getElem h1) hf
    · rw [List.getElem?_set_ne e] at hi
      exact h.caps i y f hi hf
  · rcases List.mem_or_eq_of_mem_set hy with hy | rfl
    · exact h.own y hy
    · exact ⟨hp, hb⟩
/-- The table's things, by their numbers. -/
theorem tab_get {l : List FlR} {st : List Th} (hl : st.length = l.length) (hn : (l.map (·.id)).Nodup) (id : Nat) : (0 ≤ findF l id → (id, (st[(findF l id).toNat]?).getD ⟨0, 0, 0⟩) ∈ tabE l st) ∧ (findF l id < 0 → ∀ y, (id, y) ∉ tabE l st) := by
  induction l generalizing st with
  | nil => simp [findF, tabE]
  | cons f r ih =>
    cases st with
    | nil => simp at hl
    | cons s st =>
      have ih := ih (st := st) (by simpa using hl) (by rw [List.map_cons, List.nodup_cons] at hn; exact hn.2)
      have hg := findF_ge r id
      unfold findF
      by_cases h1 : f.id = id
      · rw [if_pos h1]
        refine ⟨fun _ => by subst h1; simp [tabE], fun h => by omega⟩
      · rw [if_neg h1]
        by_cases h2 : findF r id < 0
        · rw [if_pos h2]
          refine ⟨fun h => by omega, fun _ y hy => ?_⟩
          simp only [tabE, List.zip_cons_cons, List.map_cons, List.mem_cons, Prod.mk.injEq] at hy
          rcases hy with ⟨e, _⟩ | hy
          · exact h1 e.symm
          · exact ih.2 h2 y hy
        · rw [if_neg h2]
          refine ⟨fun _ => ?_, fun h => by omega⟩
          have e : (findF r id + 1).toNat = (findF r id).toNat + 1 := by omega
          rw [e, List.getElem?_cons_succ]
          have := ih.1 (by omega)
          unfold tabE at *
          simp only [List.zip_cons_cons, List.map_cons, List.mem_cons]
          exact .inr this
theorem tab_set {l : List FlR} {st : List Th} (hl : st.length = l.length) (hn : (l.map (·.id)).Nodup) (id : Nat) (x : Th) (h0 : 0 ≤ findF l id) : (tabE l st).map (fun e => if e.1 = id then (id, x) else e) = tabE l (st.set (findF l id).toNat x) := by
  induction l generalizing st with
  | nil => simp [findF] at h0
  | cons f r ih =>
    cases st with
    | nil => simp at hl
    | cons s st =>
      rw [List.map_cons, List.nodup_cons] at hn
      have ih := ih (st := st) (by simpa using hl) hn.2
      have hg := findF_ge r id
      have hex : ∀ st' : List Th, f.id = id → (tabE r st').map (fun e => if e.1 = id then (id, x) else e) = tabE r st' := fun st' hfi => by
        refine (List.map_congr_left (g := fun e => e) (fun e he => if_neg ?_)).trans (List.map_id' _)
        unfold tabE at he
        obtain ⟨p, hp, rfl⟩ := List.mem_map.1 he
        intro hc
        exact hn.1 (by rw [hfi]; show id ∈ _; rw [← hc]; exact List.mem_map_of_mem (List.of_mem_zip hp).1)
      have hc1 : ∀ (s' : Th) (st' : List Th), tabE (f :: r) (s' :: st') = (f.id, s') :: tabE r st' := fun _ _ => rfl
      rw [hc1, List.map_cons]
      unfold findF at h0 ⊢
      by_cases h1 : f.id = id
      · rw [if_pos h1, if_pos h1, hex st h1]
        show _ = tabE (f :: r) ((s :: st).set 0 x)
        rw [List.set_cons_zero, hc1, h1]
      · rw [if_neg h1] at h0 ⊢
        rw [if_neg h1]
        by_cases h2 : findF r id < 0
        · rw [if_pos h2] at h0; omega
        · rw [if_neg h2]
          have e : (findF r id + 1).toNat = (findF r id).toNat + 1 := by omega
          rw [e, List.set_cons_succ, hc1, ih (by omega)]
end Go.Proofs.YtfckgddodjmbdaaGreatDoor

namespace Go.Proofs.YtfckgddodjmbdaaGreatDoor.flowOwn
set_option linter.unusedVariables false
set_option linter.unusedSimpArgs false
open Go.RowKit Go.Proofs.YtfckgddodjmbdaaGreatDoor

def setF (id : Nat) (x : Th) (E : List (Nat × Th)) : List (Nat × Th) := E.map (fun e => if e.1 = id then (id, x) else e)
theorem set_row {S : Slots Th} {q id : Nat} {y : Th} (x : Th) (hq : q < S.length) (ht : tAt S q = some (id, y)) (i k : Nat) (z : Th) (h : tAt (S.set q (some (id, x))) i = some (k, z)) : ∃ z', tAt S i = some (k, z') := by
  rw [tAt_set S q i _ hq] at h
  by_cases hi : i = q
  · rw [if_pos hi] at h
    simp only [Option.some.injEq, Prod.mk.injEq] at h
    exact ⟨y, by rw [hi, ht, h.1]⟩
  · rw [if_neg hi] at h; exact ⟨z, h⟩
theorem set_none {S : Slots Th} {q id : Nat} {y : Th} (x : Th) (hq : q < S.length) (ht : tAt S q = some (id, y)) (i : Nat) (h : tAt S i ≠ none) : tAt (S.set q (some (id, x))) i ≠ none := by
  rw [tAt_set S q i _ hq]
  split
  · simp
  · exact h
theorem set_inv {hm : Nat → Nat} {S : Slots Th} (h : FInv hm S) {q id : Nat} {y : Th} (x : Th) (hq : q < S.length) (ht : tAt S q = some (id, y)) : FInv hm (S.set q (some (id, x))) := by
  refine ⟨fun k => by rw [List.length_set]; exact h.home k, fun i k z hi he d hd => ?_, fun i j k z z2 hi hj he hf => ?_⟩
  · rw [List.length_set] at hi hd ⊢
    obtain ⟨z', he'⟩ := set_row x hq ht i k z he
    exact set_none x hq ht _ (h.path i k z' hi he' d hd)
  · rw [List.length_set] at hi hj
    obtain ⟨z', he'⟩ := set_row x hq ht i k z he
    obtain ⟨z2', hf'⟩ := set_row x hq ht j k z2 hf
    exact h.one i j k z' z2' hi hj he' hf'
theorem set_ents {S : Slots Th} {q id : Nat} {y : Th} (x : Th) (hq : q < S.length) (ht : tAt S q = some (id, y)) (hk : ((entsF S).map (·.1)).Nodup) : entsF (S.set q (some (id, x))) = setF id x (entsF S) := by
  rw [ents_split S q hq, ents_self S q hq, ht]
  rw [ents_self S q hq, ht] at hk
  simp only [Option.toList_some, List.map_append, List.map_cons, List.map_nil, List.append_assoc, List.singleton_append] at hk ⊢
  rw [List.nodup_append] at hk
  obtain ⟨_, h2, h3⟩ := hk
  rw [List.nodup_cons] at h2
  have hsame : ∀ L : List (Nat × Th), (∀ e ∈ L, e.1 ≠ id) → L.map (fun e => if e.1 = id then (id, x) else e) = L := fun L hL => by
    rw [List.map_congr_left (g := fun e => e) (fun e he => if_neg (hL e he))]
    exact List.map_id' L
  unfold setF
  rw [List.map_append, List.map_cons, if_pos rfl, hsame _ (fun e he hc => h3 e.1 (List.mem_map_of_mem he) id (by simp) hc), hsame _ (fun e he hc => h2.1 (by rw [← hc]; exact List.mem_map_of_mem he))]
/-- A part of one of the flat things written. -/
theorem flat_part {α : Type} (en : α → List Value) (sz : Nat) (hl : ∀ a, (en a).length = sz) (l : List α) (i : Nat) (c a : α) (o : Nat) (vs : List Value) (hi : l[i]? = some c) (ho : o + vs.length ≤ sz) (ha : en a = setFlat (en c) o vs) : setFlat (l.flatMap en) (i * sz + o) vs = (l.set i a).flatMap en := by
  have hil : i < l.length := (List.getElem?_eq_some_iff.1 hi).1
  have hlen := flat_len en sz hl l
  have hjs : i * sz + sz ≤ l.length * sz := by rw [← Nat.succ_mul]; exact Nat.mul_le_mul_right _ hil
  rw [flat_set en sz hl l i a hil]
  apply List.ext_getElem?
  intro k
  rw [setFlat_get _ _ _ _ (by rw [hlen]; omega), setFlat_get _ _ _ _ (by rw [hlen, hl]; exact hjs), hl]
  by_cases h1 : i * sz ≤ k ∧ k < i * sz + sz
  · rw [if_pos h1, ha, setFlat_get _ _ _ _ (by rw [hl]; exact ho)]
    obtain ⟨m, rfl⟩ : ∃ m, k = i * sz + m := ⟨k - i * sz, by omega⟩
    rw [Nat.add_sub_cancel_left]
    by_cases h2 : o ≤ m ∧ m < o + vs.length
    · rw [if_pos (by omega), if_pos h2]; congr 1; omega
    · rw [if_neg (by omega), if_neg h2, flat_get en sz hl l i m (by omega), hi]; rfl
  · rw [if_neg h1, if_neg (by omega)]
set_option maxRecDepth 100000 in
set_option maxHeartbeats 4000000 in
theorem fSetSome (w : World) (tb sb : Nat) (S : Slots Th) (n room : Nat) (h : TMem w tb sb S n room) (ok : TOk S n room) (id : Nat) (hid : id < 4294967296) (d : Nat) (f : FAt (homeN S.length) S id d) (y : Th) (ht : tAt S (ad S.length (homeN S.length id) d) = some (id, y)) (x : Th) :
    Calls Tryz.prog 107 #[.pointer (some ⟨tb, 0, none⟩), .int .u32 id, en x] w fun e w' => e = .returned (.bool true) ∧ ∃ S', TMem w' tb sb S' n room ∧ TOk S' n room ∧ entsF S' = setF id x (entsF S) ∧ Kp (fun b => b = tb ∨ b = sb) w w' := by
  have c := h.top.cell 0 rfl
  have hN := ok.pw.pos
  have hpl := ad_lt (homeN_lt S.length id hN) f.lt
  have GM := Lib.hid (fun W (k : Kp none' w W) => calls_same (fMade W tb sb S n room (h.old k) hN))
  have GF := Lib.hid (fun W (k : Kp none' w W) => fFindAt S id d ok.pw ok.b2 hid ok.free f W tb sb n room (h.old k))
  have hce := fun k u h1 h2 => h.cell (ad S.length (homeN S.length id) d) k (u := u) h1 h2 hpl
  generalize ad S.length (homeN S.length id) d = q at *
  have hql : (q : Int) < S.length := by omega
  have hst3 : tb ≠ sb := fun q => blk_ne h.top h.cel (by decide) q
  have hents := set_ents x hpl ht (ents_keys ok.inv)
  have hyS : S[q]? = some (some (id, y)) := by
    unfold tAt at ht
    rw [List.getD_eq_getElem?_getD, List.getElem?_eq_getElem hpl] at ht
    rw [List.getElem?_eq_getElem hpl]; simpa using ht
  have hfl : setFlat (S.flatMap enS) (q * 5 + 2) (enx x) = (S.set q (some (id, x))).flatMap enS := by
    exact flat_part enS 5 enS_len S q (some (id, y)) (some (id, x)) 2 (enx x) hyS (by show 2 + 3 ≤ 5; omega) rfl
  have hok : TOk (S.set q (some (id, x))) n room := by
    have hl : (S.set q (some (id, x))).length = S.length := List.length_set
    refine ⟨by rw [hl]; exact ok.pw, by rw [hl]; exact set_inv ok.inv x hpl ht, ?_, by rw [hl]; exact ok.load, ok.nr, ok.r1, ok.r2, ?_, by rw [hl]; exact ok.b1, by rw [hl]; exact ok.b2⟩
    · rw [hents]; unfold setF; rw [List.length_map]; exact ok.cnt
    · rw [hents]
      unfold setF
      intro e he
      obtain ⟨e', he', rfl⟩ := List.mem_map.1 he
      split
      · exact hid
      · exact ok.ids _ he'
  have HM := Lib.hid h
  have HOK := Lib.hid hok
  have HEN := Lib.hid hents
  have HFL := Lib.hid hfl
  clear h f hok hents hfl hyS
  rw [ht] at hce
  have c1 := hce 1 (.bool true) (by omega) rfl
  clear hce ht
  go_enter Tryz.func107, Tryz.ntmps107
  go_wp2_with fail
  have HB5 := Lib.hid (Blk.new w [.int .i64 x.p, .int .u64 x.b, .int .u64 x.m] 232)
  have HK1 := Lib.hid ((Kp.refl none' w).alloc (.cells #[.int .i64 x.p, .int .u64 x.b, .int .u64 x.m] 232))
  change Code.wp _ _ _ _ (w.alloc (.cells #[.int .i64 x.p, .int .u64 x.b, .int .u64 x.m] 232))
  generalize w.alloc (.cells #[.int .i64 x.p, .int .u64 x.b, .int .u64 x.m] 232) = W1 at *
  have d0 := HK1.out.cell c (fun x => x)
  have d1 := HK1.out.cell c1 (fun x => x)
  have GM1 := Lib.hid (fun W (k : Kp none' W1 W) => GM.out W (HK1.out.trans k))
  have GF1 := Lib.hid (fun W (k : Kp none' W1 W) => GF.out W (HK1.out.trans k))
  refine wp_region_kept2 [] [0, 1, 2, 3, 4, 5, 6, 7, 8, 9, 10, 11, 12, 13, 14] 15 (by kernel_rfl) (by kernel_rfl) (fun c a d u w h => by cases d <;> exact h) ?_
  simp only [pick, List.getElem?_cons_succ, List.getElem?_cons_zero, List.drop_succ_cons, List.drop_zero]
  show wpKL _ _ _ _ _ _
  repeat (first
    | (refine wpKL_op (by exact rfl) (by as_aux_lemma => intro W hK; have e0 := hK.cell d0 (fun x => x); have e1 := hK.cell d1 (fun x => x); go_simp; exact rfl) ?_; simp only [Act.put, List.setIfInBounds_toArray, List.set_cons_succ, List.set_cons_zero])
    | (refine wpKL_off (by exact rfl) ?_; simp only [Act.put, List.setIfInBounds_toArray, List.set_cons_succ, List.set_cons_zero])
    | (refine wpKL_call (by exact rfl) (by as_aux_lemma => intro W; go_simp; exact ⟨rfl, rfl⟩) (by intro W hK; with_reducible first | exact GM1.out W hK | exact GF1.out W hK) ?_; simp only [Act.put, List.setIfInBounds_toArray, List.set_cons_succ, List.set_cons_zero]))
  show ∀ W, _ → wpList _ _ _ _ _ _
  intro W2 hK2
  have HK2 := Lib.hid (HK1.out.trans hK2)
  have HC5 := Lib.hid (HB5.out.kp hK2 (fun x => x))
  have d2 := hK2.cell d0 (fun x => x)
  have GF2 := Lib.hid (fun W (k : Kp none' W2 W) => GF1.out W (hK2.trans k))
  have x0 := HC5.out.cell 0 rfl
  have x1 := HC5.out.cell 1 rfl
  have x2 := HC5.out.cell 2 rfl
  clear hK2 d0 d1 HB5 c c1
  go_wp2_with fail
  refine wp_region_kept2 [] [0, 1, 2, 3, 4, 5, 6, 7, 8, 9] 10 (by kernel_rfl) (by kernel_rfl) (fun c a d u w h => by cases d <;> exact h) ?_
  simp only [pick, List.getElem?_cons_succ, List.getElem?_cons_zero, List.drop_succ_cons, List.drop_zero]
  show wpKL _ _ _ _ _ _
  repeat (first
    | (refine wpKL_op (by exact rfl) (by as_aux_lemma => intro W hK; have e0 := hK.cell d2 (fun x => x); have e1 := hK.cell x0 (fun x => x); have e2 := hK.cell x1 (fun x => x); have e3 := hK.cell x2 (fun x => x); go_simp; exact rfl) ?_; simp only [Act.put, List.setIfInBounds_toArray, List.set_cons_succ, List.set_cons_zero])
    | (refine wpKL_off (by exact rfl) ?_; simp only [Act.put, List.setIfInBounds_toArray, List.set_cons_succ, List.set_cons_zero])
    | (refine wpKL_call (by exact rfl) (by as_aux_lemma => intro W; go_simp; exact ⟨rfl, rfl⟩) (by intro W hK; with_reducible first | exact GF2.out W hK) ?_; simp only [Act.put, List.setIfInBounds_toArray, List.set_cons_succ, List.set_cons_zero]))
  show ∀ W, _ → wpList _ _ _ _ _ _
  intro W3 hK3
  have HK3 := Lib.hid (HK2.out.trans hK3)
  have HM3 := Lib.hid (HM.out.old HK3.out)
  clear hK3 d2 x0 x1 x2
  refine wp_set_mid rfl 232 (.tmp 32) (.tmp 30) rfl HM3.out.cel (q * 5 + 2) (enx x) rfl rfl infoOwn (by rw [flat_len enS 5 enS_len]; show q * 5 + 2 + 3 ≤ _; omega) (by intro v hv; simp only [enx, List.mem_cons, List.not_mem_nil, or_false] at hv; rcases hv with rfl | rfl | rfl <;> rfl) ?_
  intro W4 hB4 hO4 hK4
  rw [HFL.out] at hB4
  have HT4 := Lib.hid (hO4 _ _ _ HM3.out.top hst3)
  have HB4 := Lib.hid hB4
  have HK4 := Lib.hid (hK4 (fun b => b = tb ∨ b = sb) w (HK3.out.mono fun _ _ x => x.elim) (.inl (.inr rfl)))
  clear hB4 hO4 hK4
  simp only [Act.put]
  go_wp2_with fail
  go_ret
  exact ⟨rfl, S.set q (some (id, x)), ⟨by rw [List.length_set]; exact HT4.out, HB4.out⟩, HOK.out, HEN.out, HK4.out⟩
theorem bSet {w : World} {F : Nat → Prop} {tb room : Nat} {E : List (Nat × Th)} (h : Tf w F tb room E) (id : Nat) (hid : id < 4294967296) (x y : Th) (hy : (id, y) ∈ E) :
    Calls Tryz.prog 107 #[.pointer (some ⟨tb, 0, none⟩), .int .u32 id, en x] w fun e w' => e = .returned (.bool true) ∧ Tf w' F tb room (setF id x E) ∧ Kp F w w' := by
  obtain ⟨sb, S, n, rfl, hm, ok, hp⟩ := h
  obtain ⟨d, f⟩ := FAt.there (hm := homeN S.length) (fun id => homeN_lt _ _ ok.pw.pos) id ok.free
  refine (fSetSome w tb sb S n room hm ok id hid d f y ((f.some_there ok.inv y).2 (hp.mem_iff.2 hy)) x).mono ?_
  rintro e w' ⟨he, S', hm', ok', hp', hk⟩
  exact ⟨he, ⟨sb, S', n, rfl, hm', ok', by rw [hp']; exact hp.map _⟩, hk⟩
end Go.Proofs.YtfckgddodjmbdaaGreatDoor.flowOwn
