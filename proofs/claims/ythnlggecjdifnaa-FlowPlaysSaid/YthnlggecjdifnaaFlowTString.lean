/- A table of things of kind string as what it has: each method by one contract. -/
import Derived.Test.YthnlggecjdifnaaFlowIString
namespace Go.Proofs.Ythnlggecjdifnaa.flowString
set_option linter.unusedVariables false
set_option linter.unusedSimpArgs false
open Go.RowKit Go.Proofs.Ythnlggecjdifnaa

theorem ents_keys {hm : Nat → Nat} {S : Slots Th} (h : FInv hm S) : ((entsF S).map (·.1)).Nodup := by
  unfold entsF List.Nodup
  rw [List.pairwise_map, List.pairwise_filterMap, List.pairwise_iff_getElem]
  intro i j hi hj hij x hx y hy e
  simp only [id] at hx hy
  have tx : tAt S i = some (x.1, x.2) := by unfold tAt; rw [List.getD_eq_getElem?_getD, List.getElem?_eq_getElem hi, hx]; rfl
  have ty : tAt S j = some (x.1, y.2) := by unfold tAt; rw [List.getD_eq_getElem?_getD, List.getElem?_eq_getElem hj, hy, e]; rfl
  have := h.one i j x.1 x.2 y.2 hi hj tx ty
  omega
def delF (id : Nat) (E : List (Nat × Th)) : List (Nat × Th) := E.filter (fun e => e.1 != id)
theorem del_perm {E E' : List (Nat × Th)} {id : Nat} {x : Th} (hk : (E.map (·.1)).Nodup) (h : E.Perm ((id, x) :: E')) : (delF id E).Perm E' := by
  have h1 := (h.map (·.1)).nodup_iff.1 hk
  simp only [List.map_cons, List.nodup_cons] at h1
  have h2 := h.filter (fun e => e.1 != id)
  rw [List.filter_cons_of_neg (by simp)] at h2
  refine h2.trans ?_
  rw [List.filter_eq_self.2]
  intro e he
  simp only [bne_iff_ne, ne_eq]
  intro hc
  exact h1.1 (by rw [← hc]; exact List.mem_map_of_mem he)
/-- The table at tb, its blocks beyond B0, has E. -/
def Tb (w : World) (B0 tb room : Nat) (E : List (Nat × Th)) : Prop := ∃ sb S n, TMem w tb sb S n room ∧ TOk S n room ∧ (entsF S).Perm E ∧ B0 ≤ tb ∧ B0 ≤ sb
theorem Tb.keys {w : World} {B0 tb room : Nat} {E : List (Nat × Th)} (h : Tb w B0 tb room E) : (E.map (·.1)).Nodup := by
  obtain ⟨sb, S, n, _, ok, hp, _⟩ := h
  exact (hp.map (·.1)).nodup_iff.1 (ents_keys ok.inv)
theorem Tb.kp {T : Nat → Prop} {w w' : World} {B0 tb room : Nat} {E : List (Nat × Th)} (h : Tb w B0 tb room E) (k : Kp T w w') (hT : ∀ b, B0 ≤ b → ¬ T b) : Tb w' B0 tb room E := by
  obtain ⟨sb, S, n, hm, ok, hp, h1, h2⟩ := h
  exact ⟨sb, S, n, hm.kp k (hT _ h1) (hT _ h2), ok, hp, h1, h2⟩
theorem Tb.len {w : World} {B0 tb room : Nat} {E : List (Nat × Th)} (h : Tb w B0 tb room E) : E.length ≤ room ∧ room ≤ 4096 := by
  obtain ⟨sb, S, n, hm, ok, hp, _⟩ := h
  have := hp.length_eq; have := ok.cnt; have := ok.nr; have := ok.r2
  omega
theorem Tb.mem {w : World} {B0 tb room : Nat} {E : List (Nat × Th)} (h : Tb w B0 tb room E) : ∀ e ∈ E, e.1 < 4294967296 := by
  obtain ⟨sb, S, n, hm, ok, hp, _⟩ := h
  exact fun e he => ok.ids e (hp.mem_iff.2 he)
theorem Tb.eqv {w : World} {B0 tb room : Nat} {E E' : List (Nat × Th)} (h : Tb w B0 tb room E) (hp : E.Perm E') : Tb w B0 tb room E' := by
  obtain ⟨sb, S, n, hm, ok, hq, r⟩ := h
  exact ⟨sb, S, n, hm, ok, hq.trans hp, r⟩

/-- What a call that turns the table at tb leaves: what lay below B0, and all that is neither slots nor a table. -/
structure Ts (B0 : Nat) (w w' : World) : Prop where
  kp : Kp (fun b => B0 ≤ b) w w'
  oth : ∀ (b : Nat) (cs : Array Value) (t : TypeId) (fr : Nat × Nat), w.heap[b]? = some (Obj.cells cs t fr) → t ≠ 69 → t ≠ 67 → w'.heap[b]? = some (Obj.cells cs t fr)
theorem Ts.old {B0 : Nat} {w w' : World} (h : Kp none' w w') : Ts B0 w w' := ⟨h.mono fun _ _ x => x.elim, fun b cs t fr hb _ _ => (h.block b (Array.getElem?_eq_some_iff.1 hb).1 (fun x => x)).trans hb⟩
theorem Ts.of {B0 : Nat} {w w' : World} {tb sb : Nat} {S : Slots Th} {n room : Nat} (hm : TMem w tb sb S n room) (h1 : B0 ≤ tb) (h2 : B0 ≤ sb) (h : Kp (fun b => b = tb ∨ b = sb) w w') : Ts B0 w w' := by
  refine ⟨h.mono fun b _ hb => (by rcases hb with rfl | rfl <;> assumption), fun b cs t fr hb ht1 ht2 => (h.block b (Array.getElem?_eq_some_iff.1 hb).1 (fun x => ?_)).trans hb⟩
  rcases x with rfl | rfl
  · have := hb.symm.trans hm.top.is
    simp only [Option.some.injEq, Obj.cells.injEq] at this
    exact ht2 this.2.1
  · have := hb.symm.trans hm.cel.is
    simp only [Option.some.injEq, Obj.cells.injEq] at this
    exact ht1 this.2.1
theorem bNew (room : Nat) (h1 : 1 ≤ room) (h2 : room ≤ 4096) (w : World) : Calls Try.prog 10 #[.int .i64 room] w fun e w' => ∃ tb, e = .returned (.tuple #[.pointer (some ⟨tb, 0, none⟩), .int .i64 0]) ∧ Tb w' w.heap.size tb room [] ∧ Kp none' w w' :=
  (fNew room h1 h2 w).mono fun e w' ⟨tb, sb, he, hm, hb1, hb2, hk⟩ => ⟨tb, he, ⟨sb, _, 0, hm, TOk.new room h1 h2, by rw [ents_nil], hb1, hb2⟩, hk⟩
theorem bPutThere {w : World} {B0 tb room : Nat} {E : List (Nat × Th)} (h : Tb w B0 tb room E) (id : Nat) (hid : id < 4294967296) (x y : Th) (hy : (id, y) ∈ E) : Calls Try.prog 11 #[.pointer (some ⟨tb, 0, none⟩), .int .u32 id, en x] w fun e w' => e = .returned (.int .i64 8) ∧ Kp none' w w' := by
  obtain ⟨sb, S, n, hm, ok, hp, _⟩ := h
  obtain ⟨d, f⟩ := FAt.there (hm := homeN S.length) (fun id => homeN_lt _ _ ok.pw.pos) id ok.free
  exact fPutThere w tb sb S n room hm ok id hid d f y ((f.some_there ok.inv y).2 (hp.mem_iff.2 hy)) x
theorem none_at {S : Slots Th} {n room id d : Nat} (ok : TOk S n room) (f : FAt (homeN S.length) S id d) (hn : ∀ y, (id, y) ∉ entsF S) : tAt S (ad S.length (homeN S.length id) d) = none := by
  rcases f.fin with h | ⟨y, h⟩
  · exact h
  · exact absurd ((f.some_there ok.inv y).1 h) (hn y)
theorem bPutFull {w : World} {B0 tb room : Nat} {E : List (Nat × Th)} (h : Tb w B0 tb room E) (id : Nat) (hid : id < 4294967296) (x : Th) (hn : ∀ y, (id, y) ∉ E) (hr : room ≤ E.length) : Calls Try.prog 11 #[.pointer (some ⟨tb, 0, none⟩), .int .u32 id, en x] w fun e w' => e = .returned (.int .i64 20) ∧ Kp none' w w' := by
  obtain ⟨sb, S, n, hm, ok, hp, _⟩ := h
  obtain ⟨d, f⟩ := FAt.there (hm := homeN S.length) (fun id => homeN_lt _ _ ok.pw.pos) id ok.free
  have hl := hp.length_eq
  rw [ok.cnt] at hl
  exact fPutFull w tb sb S n room hm ok id hid d f (none_at ok f (fun y hy => hn y (hp.mem_iff.1 hy))) x (by omega)
theorem bPutNew {w : World} {B0 tb room : Nat} {E : List (Nat × Th)} (h : Tb w B0 tb room E) (hB : B0 ≤ w.heap.size) (id : Nat) (hid : id < 4294967296) (x : Th) (hn : ∀ y, (id, y) ∉ E) (hr : E.length < room) :
    Calls Try.prog 11 #[.pointer (some ⟨tb, 0, none⟩), .int .u32 id, en x] w fun e w' => e = .returned (.int .i64 0) ∧ Tb w' B0 tb room ((id, x) :: E) ∧ Ts B0 w w' := by
  obtain ⟨sb, S, n, hm, ok, hp, h1, h2⟩ := h
  obtain ⟨d, f⟩ := FAt.there (hm := homeN S.length) (fun id => homeN_lt _ _ ok.pw.pos) id ok.free
  have hl := hp.length_eq
  rw [ok.cnt] at hl
  refine (fPutNew w tb sb S n room hm ok id hid d f (none_at ok f (fun y hy => hn y (hp.mem_iff.1 hy))) x (by omega)).mono ?_
  rintro e w' ⟨he, sb', S', hm', ok', hp', hk, hs⟩
  refine ⟨he, ⟨sb', S', n + 1, hm', ok', hp'.trans (List.Perm.cons _ hp), h1, by omega⟩, Ts.of hm h1 h2 hk⟩
theorem bGet {w : World} {B0 tb room : Nat} {E : List (Nat × Th)} (h : Tb w B0 tb room E) (id : Nat) (hid : id < 4294967296) (x : Th) (hx : (id, x) ∈ E) : Calls Try.prog 30 #[.pointer (some ⟨tb, 0, none⟩), .int .u32 id] w fun e w' => e = .returned (.tuple #[en x, .bool true]) ∧ Kp none' w w' := by
  obtain ⟨sb, S, n, hm, ok, hp, _⟩ := h
  obtain ⟨d, f⟩ := FAt.there (hm := homeN S.length) (fun id => homeN_lt _ _ ok.pw.pos) id ok.free
  have := fGet w tb sb S n room hm ok id hid d f
  rw [(f.some_there ok.inv x).2 (hp.mem_iff.2 hx)] at this
  exact this
theorem bGetNone {w : World} {B0 tb room : Nat} {E : List (Nat × Th)} (h : Tb w B0 tb room E) (id : Nat) (hid : id < 4294967296) (hn : ∀ y, (id, y) ∉ E) : Calls Try.prog 30 #[.pointer (some ⟨tb, 0, none⟩), .int .u32 id] w fun e w' => e = .returned (.tuple #[en zx, .bool false]) ∧ Kp none' w w' := by
  obtain ⟨sb, S, n, hm, ok, hp, _⟩ := h
  obtain ⟨d, f⟩ := FAt.there (hm := homeN S.length) (fun id => homeN_lt _ _ ok.pw.pos) id ok.free
  have := fGet w tb sb S n room hm ok id hid d f
  rw [none_at ok f (fun y hy => hn y (hp.mem_iff.1 hy))] at this
  exact this
theorem bDropNone {w : World} {B0 tb room : Nat} {E : List (Nat × Th)} (h : Tb w B0 tb room E) (id : Nat) (hid : id < 4294967296) (hn : ∀ y, (id, y) ∉ E) : Calls Try.prog 13 #[.pointer (some ⟨tb, 0, none⟩), .int .u32 id] w fun e w' => e = .returned (.tuple #[en zx, .bool false]) ∧ Kp none' w w' := by
  obtain ⟨sb, S, n, hm, ok, hp, _⟩ := h
  obtain ⟨d, f⟩ := FAt.there (hm := homeN S.length) (fun id => homeN_lt _ _ ok.pw.pos) id ok.free
  exact fDropNone w tb sb S n room hm ok id hid d f (none_at ok f (fun y hy => hn y (hp.mem_iff.1 hy)))
theorem bDrop {w : World} {B0 tb room : Nat} {E : List (Nat × Th)} (h : Tb w B0 tb room E) (id : Nat) (hid : id < 4294967296) (x : Th) (hx : (id, x) ∈ E) :
    Calls Try.prog 13 #[.pointer (some ⟨tb, 0, none⟩), .int .u32 id] w fun e w' => e = .returned (.tuple #[en x, .bool true]) ∧ Tb w' B0 tb room (delF id E) ∧ Ts B0 w w' := by
  obtain ⟨sb, S, n, hm, ok, hp, h1, h2⟩ := h
  obtain ⟨d, f⟩ := FAt.there (hm := homeN S.length) (fun id => homeN_lt _ _ ok.pw.pos) id ok.free
  refine (fDropSome w tb sb S n room hm ok id hid d f x ((f.some_there ok.inv x).2 (hp.mem_iff.2 hx))).mono ?_
  rintro e w' ⟨he, S', _, hm', ok', hp', hk⟩
  have hkk := (hp.map (·.1)).nodup_iff.1 (ents_keys ok.inv)
  refine ⟨he, ⟨sb, S', n - 1, hm', ok', (del_perm hkk (hp.symm.trans hp')).symm, h1, h2⟩, Ts.of hm h1 h2 hk⟩
theorem bIDs {most : Nat} (HP : sortUint32.PdqAt most) (hmost : most < 4611686018427387904) {w : World} {B0 tb room : Nat} {E : List (Nat × Th)} (h : Tb w B0 tb room E) (hn : E.length ≤ most) :
    Calls Try.prog 12 #[.pointer (some ⟨tb, 0, none⟩)] w fun e w' => ∃ v ys, e = .returned v ∧ sortUint32.Rising (E.map (·.1)) ys ∧ w'.ownsRow w.heap.size 29 1 v ys.length (ys.map sortUint32.en) ∧ Kp none' w w' := by
  obtain ⟨sb, S, n, hm, ok, hp, h1, h2⟩ := h
  have hl := hp.length_eq
  rw [ok.cnt] at hl
  refine (fIDs HP hmost w tb sb S n room hm ok (by omega)).mono ?_
  rintro e w' ⟨v, ys, he, hr, ho, hk⟩
  exact ⟨v, ys, he, ⟨hr.perm.trans (hp.map _), hr.up⟩, ho, hk⟩
end Go.Proofs.Ythnlggecjdifnaa.flowString
