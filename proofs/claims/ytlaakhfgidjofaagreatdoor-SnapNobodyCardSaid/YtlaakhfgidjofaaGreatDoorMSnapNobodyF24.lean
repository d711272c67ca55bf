/- What the functions of package flow compute, at things of kind own: New, Len; a table that nobody made. -/
import Derived.Test.YtlaakhfgidjofaaGreatDoorMSnapNobodyF23
import Derived.Test.YtlaakhfgidjofaaGreatDoorMSnapNobodyF20
import Derived.Test.YtlaakhfgidjofaaGreatDoorMSnapNobodyF1
import Derived.Test.YtlaakhfgidjofaaGreatDoorMSnapNobodyF3
import Derived.Test.YtlaakhfgidjofaaGreatDoorShelf
import Derived.Test.YtlaakhfgidjofaaGreatDoorMSnapNobodyF5
import Derived.Test.YtlaakhfgidjofaaGreatDoorMSnapNobodyF2
import Derived.Test.YtlaakhfgidjofaaGreatDoorMSnapNobodyF21
namespace Go.Proofs.YtlaakhfgidjofaaGreatDoor.flowOwn
set_option linter.unusedVariables false
set_option linter.unusedSimpArgs false
open Go.RowKit Go.Proofs.YtlaakhfgidjofaaGreatDoor
theorem TOk.new (room : Nat) (h1 : 1 ≤ room) (h2 : room ≤ 4096) : TOk (List.replicate 8 none) 0 room :=
  ⟨⟨3, by decide, rfl⟩, FInv.nil 8 (fun id => homeN_lt 8 id (by decide)), by rw [ents_nil]; rfl, by decide, Nat.zero_le _, h1, h2, fun e h => (by rw [ents_nil] at h; cases h), by decide, by decide⟩
set_option maxRecDepth 100000 in
set_option maxHeartbeats 4000000 in
theorem fNew (room : Nat) (h1 : 1 ≤ room) (h2 : room ≤ 4096) (w : World) : Calls Tryz.prog 84 #[.int .i64 room] w fun e w' => ∃ tb sb, e = .returned (.tuple #[.pointer (some ⟨tb, 0, none⟩), .int .i64 0]) ∧ TMem w' tb sb (List.replicate 8 none) 0 room ∧ w.heap.size ≤ tb ∧ w.heap.size ≤ sb ∧ Kp none' w w' := by
  have hmk := run_make_flat tSl enS enS_len none rfl 8 (by omega) (by omega) w
  have d1 : ¬ (room : Int) < 1 := by omega
  have d2 : ¬ (4096 : Int) < room := by omega
  have hmk2 : (Instr.makeSlice 250 (.int .i64 8) (.int .i64 8)).run Tryz.prog w = .ok (.slice (some ⟨w.heap.size, 0, none⟩) 8 8) (w.alloc (.cells ((List.replicate 8 (none : Option (Nat × Th))).flatMap enS).toArray 254)) := hmk
  obtain ⟨L0, hL0⟩ : ∃ L0, (List.replicate 8 (none : Option (Nat × Th))).flatMap enS = L0 := ⟨_, rfl⟩
  have HM : Hid (TMem ((w.alloc (.cells L0.toArray 254)).alloc (.cells #[.slice (some ⟨w.heap.size, 0, none⟩) 8 8, .int .i64 0, .int .i64 room] 252)) (w.heap.size + 1) w.heap.size (List.replicate 8 none) 0 room) := by
    have h1 := Blk.new (w.alloc (.cells L0.toArray 254)) [.slice (some ⟨w.heap.size, 0, none⟩) 8 8, .int .i64 0, .int .i64 room] 252
    rw [World.size_alloc] at h1
    exact ⟨h1, by rw [hL0]; exact (Blk.new w L0 _).alloc _⟩
  have HK : Hid (Kp none' w ((w.alloc (.cells L0.toArray 254)).alloc (.cells #[.slice (some ⟨w.heap.size, 0, none⟩) 8 8, .int .i64 0, .int .i64 room] 252))) := ((Kp.refl _ _).alloc _).alloc _
  rw [hL0] at hmk2
  clear hmk hL0
  go_enter Tryz.func84, Tryz.ntmps84
  go_wp2
  go_ret2
  exact ⟨w.heap.size + 1, rfl, w.heap.size, HM.out, by omega, by omega, HK.out⟩
theorem none_at {S : Slots Th} {n room id d : Nat} (ok : TOk S n room) (f : FAt (homeN S.length) S id d) (hn : ∀ y, (id, y) ∉ entsF S) : tAt S (ad S.length (homeN S.length id) d) = none := by
  rcases f.fin with h | ⟨y, h⟩
  · exact h
  · exact absurd ((f.some_there ok.inv y).1 h) (hn y)
def Tf (w : World) (F : Nat → Prop) (tb room : Nat) (E : List (Nat × Th)) : Prop := ∃ sb S n, F = (fun b => b = tb ∨ b = sb) ∧ TMem w tb sb S n room ∧ TOk S n room ∧ (entsF S).Perm E
theorem Tf.kp {T : Nat → Prop} {w w' : World} {F : Nat → Prop} {tb room : Nat} {E : List (Nat × Th)} (h : Tf w F tb room E) (k : Kp T w w') (hT : ∀ b, F b → ¬ T b) : Tf w' F tb room E := by
  obtain ⟨sb, S, n, rfl, hm, ok, hp⟩ := h
  exact ⟨sb, S, n, rfl, hm.kp k (hT _ (.inl rfl)) (hT _ (.inr rfl)), ok, hp⟩
theorem Tf.old {w w' : World} {F : Nat → Prop} {tb room : Nat} {E : List (Nat × Th)} (h : Tf w F tb room E) (k : Kp none' w w') : Tf w' F tb room E := h.kp k (fun _ _ x => x)
theorem Tf.lt {w : World} {F : Nat → Prop} {tb room : Nat} {E : List (Nat × Th)} (h : Tf w F tb room E) {b : Nat} (hb : F b) : b < w.heap.size := by
  obtain ⟨sb, S, n, rfl, hm, ok, hp⟩ := h
  rcases hb with rfl | rfl
  · exact hm.top.lt
  · exact hm.cel.lt
theorem Tf.mem {w : World} {F : Nat → Prop} {tb room : Nat} {E : List (Nat × Th)} (h : Tf w F tb room E) : ∀ e ∈ E, e.1 < 4294967296 := by
  obtain ⟨sb, S, n, _, hm, ok, hp⟩ := h
  exact fun e he => ok.ids e (hp.mem_iff.2 he)
theorem bNew (room : Nat) (h1 : 1 ≤ room) (h2 : room ≤ 4096) (w : World) : Calls Tryz.prog 84 #[.int .i64 room] w fun e w' => ∃ F tb, e = .returned (.tuple #[.pointer (some ⟨tb, 0, none⟩), .int .i64 0]) ∧ Tf w' F tb room [] ∧ (∀ b, F b → w.heap.size ≤ b) ∧ Kp none' w w' :=
  (fNew room h1 h2 w).mono fun e w' ⟨tb, sb, he, hm, hb1, hb2, hk⟩ => ⟨_, tb, he, ⟨sb, _, 0, rfl, hm, TOk.new room h1 h2, by rw [ents_nil]⟩, fun b hb => by rcases hb with rfl | rfl <;> assumption, hk⟩
theorem bPutNew {w : World} {F : Nat → Prop} {tb room : Nat} {E : List (Nat × Th)} (h : Tf w F tb room E) (id : Nat) (hid : id < 4294967296) (x : Th) (hn : ∀ y, (id, y) ∉ E) (hr : E.length < room) :
    Calls Tryz.prog 85 #[.pointer (some ⟨tb, 0, none⟩), .int .u32 id, en x] w fun e w' => e = .returned (.int .i64 0) ∧ ∃ F', Tf w' F' tb room ((id, x) :: E) ∧ Kp F w w' ∧ Nw w F F' := by
  obtain ⟨sb, S, n, rfl, hm, ok, hp⟩ := h
  obtain ⟨d, f⟩ := FAt.there (hm := homeN S.length) (fun id => homeN_lt _ _ ok.pw.pos) id ok.free
  have hl := hp.length_eq
  rw [ok.cnt] at hl
  refine (fPutNew w tb sb S n room hm ok id hid d f (none_at ok f (fun y hy => hn y (hp.mem_iff.1 hy))) x (by omega)).mono ?_
  rintro e w' ⟨he, sb', S', hm', ok', hp', hk, hs⟩
  refine ⟨he, _, ⟨sb', S', n + 1, rfl, hm', ok', hp'.trans (List.Perm.cons _ hp)⟩, hk, fun b hb => ?_⟩
  rcases hb with rfl | rfl
  · exact .inl (.inl rfl)
  · rcases hs with rfl | hs
    · exact .inl (.inr rfl)
    · exact .inr hs
end Go.Proofs.YtlaakhfgidjofaaGreatDoor.flowOwn

namespace Go.Proofs.YtlaakhfgidjofaaGreatDoor
set_option linter.unusedVariables false
set_option linter.unusedSimpArgs false
open flowOwn (Th)
structure Ga where
  c : CfR
  st : List Th
def sumP (l : List Th) : Int := (l.map (·.p)).sum
def sumB (l : List Th) : Nat := (l.map (·.b)).sum
def tabE (l : List FlR) (st : List Th) : List (Nat × Th) := (l.zip st).map (fun e => (e.1.id, e.2))
structure Ga.Ok (g : Ga) : Prop where
  cok : g.c.ok
  adm : admE g.c = 0
  len : g.st.length = g.c.flows.length
  caps : ∀ (i : Nat) (x : Th) (f : FlR), g.st[i]? = some x → g.c.flows[i]? = some f → x.m = f.cap
  own : ∀ x ∈ g.st, 0 ≤ x.p ∧ x.b ≤ x.m
  bts : sumB g.st ≤ g.c.bytes
  pks : sumP g.st ≤ g.c.packets
theorem Ga.Ok.lims {g : Ga} (h : g.Ok) : 1 ≤ g.c.packets ∧ g.c.packets ≤ 4096 ∧ 0 ≤ g.c.share ∧ g.c.share ≤ 16 ∧ 1 ≤ g.c.mtu ∧ g.c.mtu ≤ 65535 ∧ flowsE g.c.flows = 0 := by
  have := h.adm
  unfold admE at this
  split at this
  · omega
  · split at this
    · omega
    · split at this
      · omega
      · omega
def Ga.at (g : Ga) (id : Nat) : Int := findF g.c.flows id
def Ga.x (g : Ga) (id : Nat) : Th := (g.st[(g.at id).toNat]?).getD ⟨0, 0, 0⟩
def Ga.put (g : Ga) (id : Nat) (x : Th) : Ga := { g with st := g.st.set (g.at id).toNat x }
theorem sum_set (l : List Int) (i : Nat) (v : Int) (h : i < l.length) : (l.set i v).sum = l.sum - l[i] + v := by
  induction l generalizing i with
  | nil => simp at h
  | cons a r ih =>
    cases i with
    | zero => simp; omega
    | succ i =>
      have := ih i (by simpa using h)
      simp only [List.set_cons_succ, List.sum_cons, List.getElem_cons_succ, this]; omega
theorem sumN_set (l : List Nat) (i : Nat) (v : Nat) (h : i < l.length) : (l.set i v).sum + l[i] = l.sum + v := by
  induction l generalizing i with
  | nil => simp at h
  | cons a r ih =>
    cases i with
    | zero => simp; omega
    | succ i =>
      have := ih i (by simpa using h)
      simp only [List.set_cons_succ, List.sum_cons, List.getElem_cons_succ]; omega
theorem sumP_set (l : List Th) (i : Nat) (x : Th) (h : i < l.length) : sumP (l.set i x) = sumP l - (l[i]).p + x.p := by
  unfold sumP
  rw [List.map_set, sum_set _ _ _ (by simpa using h)]; simp
theorem sumB_set (l : List Th) (i : Nat) (x : Th) (h : i < l.length) : sumB (l.set i x) + (l[i]).b = sumB l + x.b := by
  unfold sumB
  have := sumN_set (l.map (·.b)) i x.b (by simpa using h)
  rw [List.map_set]; simpa using this
theorem mem_le_sumB {l : List Th} {x : Th} (h : x ∈ l) : x.b ≤ sumB l := by
  induction l with
  | nil => cases h
  | cons a r ih =>
    unfold sumB at *
    simp only [List.map_cons, List.sum_cons]
    rcases List.mem_cons.1 h with rfl | h
    · omega
    · have := ih h; omega
theorem Ga.Ok.atb {g : Ga} (h : g.Ok) (id : Nat) : -1 ≤ g.at id ∧ g.at id < g.st.length := by
  have := findF_ge g.c.flows id
  have := h.len
  unfold Ga.at; omega
theorem Ga.Ok.x_get {g : Ga} (h : g.Ok) {id : Nat} (h0 : 0 ≤ g.at id) : ∃ h : (g.at id).toNat < g.st.length, g.x id = g.st[(g.at id).toNat] := by
  have := h.atb id
  have h1 : (g.at id).toNat < g.st.length := by omega
  exact ⟨h1, by unfold Ga.x; rw [List.getElem?_eq_getElem h1]; rfl⟩
theorem Ga.Ok.x_mem {g : Ga} (h : g.Ok) {id : Nat} (h0 : 0 ≤ g.at id) : g.x id ∈ g.st := by
  obtain ⟨h1, h2⟩ := h.x_get h0
  rw [h2]; exact List.getElem_mem h1
theorem Ga.Ok.put {g : Ga} (h : g.Ok) {id : Nat} (h0 : 0 ≤ g.at id) (x : Th) (hm : x.m = (g.x id).m) (hp : 0 ≤ x.p) (hb : x.b ≤ x.m) (hs : sumB g.st - (g.x id).b + x.b ≤ g.c.bytes) (hk : sumP g.st - (g.x id).p + x.p ≤ g.c.packets) : (g.put id x).Ok := by
  obtain ⟨h1, h2⟩ := h.x_get h0
  have h3 := sumB_set g.st _ x h1
  have h4 := sumP_set g.st _ x h1
  have h5 := mem_le_sumB (h.x_mem h0)
  rw [← h2] at h3 h4
  refine ⟨h.cok, h.adm, by show (g.st.set _ _).length = _; rw [List.length_set]; exact h.len, fun i y f hi hf => ?_, fun y hy => ?_, by show sumB (g.st.set _ _) ≤ g.c.bytes; omega, by show sumP (g.st.set _ _) ≤ g.c.packets; rw [h4]; exact hk⟩
  · have hi : (g.st.set (g.at id).toNat x)[i]? = some y := hi
    have hf : g.c.flows[i]? = some f := hf
    by_cases e : (g.at id).toNat = i
    · subst e
      rw [List.getElem?_set_self h1] at hi
      injection hi with hi
      subst hi
      rw [hm]
      exact h.caps _ _ f (by rw [h2]; exact List.getElem?_eq_getElem h1) hf
    · rw [List.getElem?_set_ne e] at hi
      exact h.caps i y f hi hf
  · rcases List.mem_or_eq_of_mem_set hy with hy | rfl
    · exact h.own y hy
    · exact ⟨hp, hb⟩
end Go.Proofs.YtlaakhfgidjofaaGreatDoor

namespace Go.Proofs.YtlaakhfgidjofaaGreatDoor.flowOwn
set_option linter.unusedVariables false
set_option linter.unusedSimpArgs false
open Go.RowKit Go.Proofs.YtlaakhfgidjofaaGreatDoor
def setF (id : Nat) (x : Th) (E : List (Nat × Th)) : List (Nat × Th) := E.map (fun e => if e.1 = id then (id, x) else e)
end Go.Proofs.YtlaakhfgidjofaaGreatDoor.flowOwn

namespace Go.Proofs.YtlaakhfgidjofaaGreatDoor
set_option linter.unusedVariables false
set_option linter.unusedSimpArgs false
open Go Go.RowKit Go.Shelf

end Go.Proofs.YtlaakhfgidjofaaGreatDoor

namespace Go.Proofs.YtlaakhfgidjofaaGreatDoor
set_option linter.unusedVariables false
set_option linter.unusedSimpArgs false
open Go Go.RowKit Go.Shelf
open flowOwn (Th Tf)
def gC (g : Ga) (tb : Nat) : List Value := [.int .i64 g.c.rank, .int .i64 g.c.back, .int .i64 g.c.levels, .int .i64 g.c.queues, .int .i64 g.c.packets, .int .u64 g.c.bytes, .int .i64 g.c.share, .int .u64 g.c.mtu, .int .u64 g.c.rate, .int .u64 g.c.burst, .slice none 0 0, .int .i64 (sumP g.st), .int .u64 (sumB g.st), .pointer (some ⟨tb, 0, none⟩)]
def GMem (w : World) (F : Nat → Prop) (gb : Nat) (g : Ga) : Prop := ∃ Ft tb, F = (fun b => b = gb ∨ Ft b) ∧ Blk w gb (gC g tb) 195 ∧ Tf w Ft tb 64 (tabE g.c.flows g.st) ∧ ¬ Ft gb ∧ g.Ok
theorem GMem.kp {T : Nat → Prop} {w w' : World} {F : Nat → Prop} {gb : Nat} {g : Ga} (h : GMem w F gb g) (k : Kp T w w') (hT : ∀ b, F b → ¬ T b) : GMem w' F gb g := by
  obtain ⟨Ft, tb, rfl, hb, ht, hn, ok⟩ := h
  exact ⟨Ft, tb, rfl, hb.kp k (hT _ (.inl rfl)), ht.kp k (fun b h => hT b (.inr h)), hn, ok⟩
theorem GMem.old {w w' : World} {F : Nat → Prop} {gb : Nat} {g : Ga} (h : GMem w F gb g) (k : Kp none' w w') : GMem w' F gb g := h.kp k (fun _ _ x => x)
theorem GMem.lt {w : World} {F : Nat → Prop} {gb : Nat} {g : Ga} (h : GMem w F gb g) {b : Nat} (hb : F b) : b < w.heap.size := by
  obtain ⟨Ft, tb, rfl, hb', ht, hn, ok⟩ := h
  rcases hb with rfl | hb
  · exact hb'.lt
  · exact ht.lt hb
theorem GMem.ok {w : World} {F : Nat → Prop} {gb : Nat} {g : Ga} (h : GMem w F gb g) : g.Ok := by
  obtain ⟨_, _, _, _, _, _, ok⟩ := h; exact ok



def thF (f : FlR) : Th := ⟨0, 0, f.cap⟩
def gaNew (c : CfR) : Ga := ⟨c, c.flows.map thF⟩
theorem tabE_new (l : List FlR) : tabE l (l.map thF) = l.map (fun f => (f.id, thF f)) := by
  unfold tabE
  induction l with
  | nil => rfl
  | cons a r ih => simp only [List.map_cons, List.zip_cons_cons, ih]
theorem sumP_new (l : List FlR) : sumP (l.map thF) = 0 := by
  unfold sumP; induction l with
  | nil => rfl
  | cons a r ih => simp only [List.map_cons, List.sum_cons, ih]; rfl
theorem sumB_new (l : List FlR) : sumB (l.map thF) = 0 := by
  unfold sumB; induction l with
  | nil => rfl
  | cons a r ih => simp only [List.map_cons, List.sum_cons, ih]; rfl
theorem gaNew_ok {c : CfR} (hc : c.ok) (h : admE c = 0) : (gaNew c).Ok :=
  ⟨hc, h, by show (c.flows.map thF).length = c.flows.length; rw [List.length_map], fun i x f h1 h2 => by
    rw [show (gaNew c).st = c.flows.map thF from rfl, List.getElem?_map] at h1
    rw [show (gaNew c).c.flows = c.flows from rfl] at h2
    rw [h2] at h1; injection h1 with h1; rw [← h1]; rfl, fun x hx => by
    obtain ⟨f, _, rfl⟩ := List.mem_map.1 hx
    exact ⟨Int.le_refl _, Nat.zero_le _⟩, by show sumB (c.flows.map thF) ≤ _; rw [sumB_new]; exact Nat.zero_le _, by
    show sumP (c.flows.map thF) ≤ c.packets
    rw [sumP_new]
    unfold admE at h
    split at h
    · omega
    · omega⟩
structure GnI (w wr : World) (cs : List Value) (tb : Nat) (l : List FlR) (k : Nat) (F : Nat → Prop) : Prop where
  tab : ∃ E, Tf wr F tb 64 E ∧ E.Perm ((l.take k).map (fun f => (f.id, thF f)))
  cfg : Blk wr w.heap.size cs 25
  new : ∀ b, F b → w.heap.size < b
  kp : Kp none' w wr
theorem GnI.step {w wr W w1 : World} {cs : List Value} {tb k : Nat} {l : List FlR} {F F' : Nat → Prop} {E : List (Nat × Th)} (h : GnI w wr cs tb l k F) (hW : Kp none' wr W) (ht : Tf w1 F' tb 64 E) (hk : k < l.length) (hE : E.Perm ((l[k].id, thF l[k]) :: (l.take k).map (fun f => (f.id, thF f)))) (hk1 : Kp F W w1) (hn : Nw W F F') : GnI w w1 cs tb l (k + 1) F' := by
  have h1 := h.cfg.lt
  have h2 := hW.size
  have h3 := h.kp.size
  refine ⟨⟨E, ht, hE.trans ?_⟩, (h.cfg.kp hW (fun x => x)).kp hk1 (fun x => by have := h.new _ x; omega), fun b hb => ?_, (h.kp.trans hW).then hk1 (fun b hb x => by have := h.new b x; omega)⟩
  · rw [List.take_succ_eq_append_getElem hk, List.map_append]
    exact List.perm_append_comm (l₁ := [(l[k].id, thF l[k])])
  · rcases hn b hb with h4 | h4
    · exact h.new b h4
    · omega
set_option maxRecDepth 100000 in
set_option maxHeartbeats 2000000 in
theorem gNew (c : CfR) (hc : c.ok) (hE : admE c = 0) (v : Value) (w : World) (h : Sl w v c.flows.length 5 (c.flows.flatMap enFl)) : Calls Tryz.prog 36 #[.agg (enC c v).toArray] w fun e w' => ∃ gb F, e = .returned (.tuple #[.pointer (some ⟨gb, 0, none⟩), .int .i64 0]) ∧ GMem w' F gb (gaNew c) ∧ (∀ b, F b → w.heap.size ≤ b) ∧ Kp none' w w' := by
  have HAD := Lib.hid (fun W (k : Kp none' w W) => by have := gAdm c hc v W (h.old k); rw [hE] at this; exact this)
  have HOK := Lib.hid (gaNew_ok hc hE)
  obtain ⟨ao, cap, rfl⟩ : ∃ ao cap, v = .slice ao c.flows.length cap := by obtain ⟨ao, cap, rfl, _⟩ := h.is; exact ⟨_, _, rfl⟩
  have hfl : c.flows.length ≤ 64 ∧ (c.flows.map (·.id)).Nodup := by
    have := HOK.out.lims.2.2.2.2.2.2
    unfold flowsE at this
    split at this
    · cases this
    · split at this
      · rename_i h2; rename_i h3; exact ⟨by have e : (gaNew c).c.flows = c.flows := rfl; rw [e] at h3; omega, h2⟩
      · cases this
  have hl64 := hfl.1
  have HND := Lib.hid hfl.2
  have HIDS : Hid (∀ f ∈ c.flows, f.id < 4294967296) := Lib.hid (fun f hf => (hc.flows f hf).id)
  have HS := Lib.hid h
  have HB0 := Lib.hid (Blk.new w (enC c (.slice ao c.flows.length cap)) 25)
  have HK0 := Lib.hid ((Kp.refl none' w).alloc (.cells (enC c (.slice ao c.flows.length cap)).toArray 25))
  refine calls_post ?_
  intro PP HP
  clear h hE hfl hc
  obtain ⟨rk, bk, lv, qu, pk, bt, sh, mt, rt, bu, fl⟩ := c
  simp only [enC] at *
  go_enter Tryz.func36, Tryz.ntmps36
  go_wp2_with fail
  refine (HAD.out _ HK0.out).mono ?_
  rintro e w1 ⟨rfl, hk1⟩
  have HB1 := Lib.hid (HB0.out.kp hk1 (fun x => x))
  have HK1 := Lib.hid (HK0.out.trans hk1)
  clear hk1 HB0 HK0 HAD
  go_wp2_with fail
  refine (flowOwn.bNew 64 (by decide) (by decide) w1).mono ?_
  rintro e w2 ⟨F, tb, rfl, ht, hF, hk2⟩
  have hb2 := HB1.out.kp hk2 (fun x => x)
  have y10 := hb2.cell 10 rfl
  have hs1 := HB1.out.lt
  have HI0 : Hid (GnI w w2 [.int .i64 rk, .int .i64 bk, .int .i64 lv, .int .i64 qu, .int .i64 pk, .int .u64 bt, .int .i64 sh, .int .u64 mt, .int .u64 rt, .int .u64 bu, .slice ao fl.length cap] tb fl 0 F) :=
    Lib.hid ⟨⟨[], ht, by simp⟩, hb2, fun b hb => by have := hF b hb; omega, HK1.out.trans hk2⟩
  clear ht hF hk2 hb2
  go_wp2_with fail
  clear y10
  go_loopw [21] (fun i0 wr => ∃ (k : Nat) (F : Nat → Prop), i0 = .int .i64 k ∧ k ≤ fl.length ∧ Hid (GnI w wr [.int .i64 rk, .int .i64 bk, .int .i64 lv, .int .i64 qu, .int .i64 pk, .int .u64 bt, .int .i64 sh, .int .u64 mt, .int .u64 rt, .int .u64 bu, .slice ao fl.length cap] tb fl k F)) (fun i0 _ => fl.length - (intOf i0).toNat)
  case atStart => exact ⟨0, _, rfl, Nat.zero_le _, HI0⟩
  case round =>
    clear HI0
    obtain ⟨k, F, rfl, hk, hr⟩ := hrel
    by_cases hlt : k < fl.length
    · have hki : (k : Int) < fl.length := by omega
      obtain ⟨gx, ox, cx, e1, hcx⟩ := (HS.out.old hr.out.kp).at enFl_len (by decide) k hlt
      injection e1 with e1 _ e3
      subst e1 e3
      have HPUT := Lib.hid (fun (E : List (Nat × Th)) (W : World) (k0 : Kp none' wr W) (hT : Tf wr F tb 64 E) (hp : E.Perm ((fl.take k).map (fun f => (f.id, thF f)))) => flowOwn.bPutNew (hT.kp k0 (fun _ _ x => x)) fl[k].id (HIDS.out _ (List.getElem_mem hlt)) (thF fl[k]) (fun y hy => by
        have h1 := (hp.mem_iff.1 hy)
        obtain ⟨f, hf, he⟩ := List.mem_map.1 h1
        simp only [Prod.mk.injEq] at he
        obtain ⟨i, hi, rfl⟩ := List.getElem_of_mem hf
        rw [List.length_take] at hi
        have hn := List.pairwise_iff_getElem.1 HND.out i k (by rw [List.length_map]; omega) (by rw [List.length_map]; exact hlt) (by omega)
        simp only [List.getElem_map] at hn
        rw [List.getElem_take] at he
        exact hn he.1) (by have := hp.length_eq; rw [List.length_map, List.length_take] at this; omega))
      have HSTEP := Lib.hid (fun (E : List (Nat × Th)) (W w1 : World) (F' : Nat → Prop) (k0 : Kp none' wr W) (ht : Tf w1 F' tb 64 ((fl[k].id, thF fl[k]) :: E)) (hp : E.Perm ((fl.take k).map (fun f => (f.id, thF f)))) (h1 : Kp F W w1) (h2 : Nw W F F') => hr.out.step k0 ht hlt (hp.cons _) h1 h2)
      obtain ⟨f, hf⟩ : ∃ f, fl[k] = f := ⟨_, rfl⟩
      simp only [hf] at hcx HPUT HSTEP
      have d0 := hcx 0 _ rfl
      have d1 := hcx 1 _ rfl
      have d2 := hcx 2 _ rfl
      have d3 := hcx 3 _ rfl
      have d4 := hcx 4 _ rfl
      simp only [Nat.add_zero] at d0
      have HK2 := Lib.hid ((Kp.refl none' wr).alloc (.cells #[.int .u32 f.id, .int .u64 f.cost, .int .u64 f.budget, .int .u64 f.size, .int .u64 f.cap] 85))
      clear hcx hf
      obtain ⟨E, hT, hP⟩ := hr.out.tab
      have HPE := Lib.hid (HPUT.out E _ HK2.out hT hP)
      have HSE := Lib.hid (fun w1 F' ht h1 h2 => HSTEP.out E _ w1 F' HK2.out ht hP h1 h2)
      clear hT hP HPUT HSTEP
      simp only [flowOwn.en, thF] at HPE
      go_wp2_with fail
      refine HPE.out.mono ?_
      rintro e w5 ⟨rfl, F', ht5, hk5, hn5⟩
      have HN := Lib.hid (HSE.out w5 F' ht5 hk5 hn5)
      clear ht5 hk5 hn5 HPE HSE d0 d1 d2 d3 d4
      go_wp2_with fail
      go_roundw
      case rel => exact ⟨k + 1, _, by go_num, by omega, HN⟩
      case measure => simp [intOf]; omega
    · obtain rfl : k = fl.length := by omega
      have h0 := hr.out.cfg.cell 0 rfl
      have h1 := hr.out.cfg.cell 1 rfl
      have h2 := hr.out.cfg.cell 2 rfl
      have h3 := hr.out.cfg.cell 3 rfl
      have h4 := hr.out.cfg.cell 4 rfl
      have h5 := hr.out.cfg.cell 5 rfl
      have h6 := hr.out.cfg.cell 6 rfl
      have h7 := hr.out.cfg.cell 7 rfl
      have h8 := hr.out.cfg.cell 8 rfl
      have h9 := hr.out.cfg.cell 9 rfl
      have h10 := hr.out.cfg.cell 10 rfl
      have hz := hr.out.cfg.fz 10
      go_wp2_with fail
      obtain ⟨E, hT, hP⟩ := hr.out.tab
      have hTf : Tf wr F tb 64 (tabE fl (fl.map thF)) := by
        rw [tabE_new]
        rw [List.take_of_length_le (Nat.le_refl _)] at hP
        obtain ⟨sb, S, n, a, b, c, d⟩ := hT
        exact ⟨sb, S, n, a, b, c, d.trans hP⟩
      have hks : Kp (fun b => b = w.heap.size) wr (wr.setCell ⟨w.heap.size, 10, none⟩ (.slice none 0 0)) := (Kp.refl (fun b => b = w.heap.size) wr).set (p := ⟨w.heap.size, 10, none⟩) (.inl rfl) _
      have hsz : (wr.setCell ⟨w.heap.size, 10, none⟩ (.slice none 0 0)).heap.size = wr.heap.size := by simp [World.setCell]
      have hka := (Kp.refl none' (wr.setCell ⟨w.heap.size, 10, none⟩ (.slice none 0 0))).alloc (.cells #[.int .i64 rk, .int .i64 bk, .int .i64 lv, .int .i64 qu, .int .i64 pk, .int .u64 bt, .int .i64 sh, .int .u64 mt, .int .u64 rt, .int .u64 bu, .slice none 0 0, .int .i64 0, .int .u64 0, .pointer (some ⟨tb, 0, none⟩)] 195)
      have hbn := Blk.new (wr.setCell ⟨w.heap.size, 10, none⟩ (.slice none 0 0)) [.int .i64 rk, .int .i64 bk, .int .i64 lv, .int .i64 qu, .int .i64 pk, .int .u64 bt, .int .i64 sh, .int .u64 mt, .int .u64 rt, .int .u64 bu, .slice none 0 0, .int .i64 0, .int .u64 0, .pointer (some ⟨tb, 0, none⟩)] 195
      rw [hsz] at hbn
      have hle := hr.out.kp.size
      refine HP.out _ _ ⟨wr.heap.size, fun b => b = wr.heap.size ∨ F b, rfl, ⟨F, tb, rfl, ?_, (hTf.kp hks (fun b hb e => by have := hr.out.new b hb; omega)).kp hka (fun _ _ x => x), fun hF => ?_, HOK.out⟩, fun b hb => ?_, (hr.out.kp.then hks (fun b hb e => by omega)).trans hka⟩
      · unfold gC gaNew
        simp only [sumP_new, sumB_new]
        exact hbn
      · have := hTf.lt hF; omega
      · rcases hb with rfl | hb
        · exact hle
        · have := hr.out.new b hb; omega
end Go.Proofs.YtlaakhfgidjofaaGreatDoor

namespace Go.Proofs.YtlaakhfgidjofaaGreatDoor
set_option linter.unusedVariables false
set_option linter.unusedSimpArgs false
open Go Go.RowKit Go.Shelf
def Rk.at (r : Rk) (id : Nat) : Nat := (findF r.fl id).toNat
def Rk.f (r : Rk) (id : Nat) : FlR := r.fl.getD (r.at id) default

def BkM (w : World) (F : Nat → Prop) (v : Value) (room : Nat) : BkS → Prop
  | .hp n S => ∃ b, v = hpV b ∧ Hp w F b room n S
  | .qu bs Qs => ∃ b, v = quV b ∧ Qu w F b room bs Qs
theorem BkM.kp {T : Nat → Prop} {w w' : World} {F : Nat → Prop} {v : Value} {room : Nat} {s : BkS} (h : BkM w F v room s) (k : Kp T w w') (hT : ∀ b, F b → ¬ T b) : BkM w' F v room s := by
  cases s with
  | hp n S => obtain ⟨b, e, h⟩ := h; exact ⟨b, e, h.kp k hT⟩
  | qu bs Qs => obtain ⟨b, e, h⟩ := h; exact ⟨b, e, h.kp k hT⟩
theorem BkM.old {w w' : World} {F : Nat → Prop} {v : Value} {room : Nat} {s : BkS} (h : BkM w F v room s) (k : Kp none' w w') : BkM w' F v room s := h.kp k (fun _ _ x => x)
theorem BkM.lt {w : World} {F : Nat → Prop} {v : Value} {room : Nat} {s : BkS} (h : BkM w F v room s) {b : Nat} (hb : F b) : b < w.heap.size := by
  cases s with
  | hp n S => obtain ⟨_, _, h⟩ := h; exact h.lt hb
  | qu bs Qs => obtain ⟨_, _, h⟩ := h; exact h.lt hb
theorem BkM.shape {w : World} {F : Nat → Prop} {v : Value} {room : Nat} {s : BkS} (h : BkM w F v room s) : ∃ t b, v = .iface t (.agg #[.pointer (some ⟨b, 0, none⟩)]) := by
  cases s with
  | hp n S => obtain ⟨b, e, h⟩ := h; exact ⟨_, b, e⟩
  | qu bs Qs => obtain ⟨b, e, h⟩ := h; exact ⟨_, b, e⟩
structure Sh where
  g : Ga
  r : Rk
  rate : Nat
  burst : Nat
  tok : Nat
  bk : BkS
  now : Nat
  ref : List Nat
structure ShF where
  sb : Nat
  gb : Nat
  rb : Nat
  v : Value
  Fg : Nat → Prop
  Fr : Nat → Prop
  Fb : Nat → Prop
def ShF.all (f : ShF) : Nat → Prop := fun b => b = f.sb ∨ f.Fg b ∨ f.Fr b ∨ f.Fb b
def shC (s : Sh) (f : ShF) : List Value := [.pointer (some ⟨f.gb, 0, none⟩), .pointer (some ⟨f.rb, 0, none⟩), .int .u64 s.rate, .int .u64 s.burst, .int .u64 s.tok, f.v, .int .u64 s.now] ++ s.ref.map eN8
structure Sh.Ok (s : Sh) : Prop where
  rate : 0 < s.rate ∧ s.rate < 18446744073709551616
  burst : 0 < s.burst ∧ s.burst < 18446744073709551616
  tok : s.tok ≤ s.burst
  now : s.now < 18446744073709551616
  ref : ∀ x ∈ s.ref, x < 18446744073709551616
  len : s.ref.length = 32
  wf : bkWf s.bk
  fl : s.r.fl = s.g.c.flows
  its : ∀ i ∈ bkItems s.bk, i.rank < 18446744073709551616 ∧ i.x.flow < 4294967296 ∧ i.x.id < 4294967296 ∧ i.x.len < 18446744073709551616
  tot : ((bkItems s.bk).length : Int) ≤ sumP s.g.st
structure ShM (w : World) (f : ShF) (s : Sh) : Prop where
  top : Blk w f.sb (shC s f) 97
  gate : GMem w f.Fg f.gb s.g
  ranks : RMem w f.Fr f.rb s.r
  back : BkM w f.Fb f.v s.g.c.packets.toNat s.bk
  sg : ¬ f.Fg f.sb
  sr : ¬ f.Fr f.sb
  sk : ¬ f.Fb f.sb
  gr : ∀ b, f.Fg b → ¬ f.Fr b
  gk : ∀ b, f.Fg b → ¬ f.Fb b
  rk : ∀ b, f.Fr b → ¬ f.Fb b
  ok : s.Ok
theorem ShM.kp {T : Nat → Prop} {w w' : World} {f : ShF} {s : Sh} (h : ShM w f s) (k : Kp T w w') (hT : ∀ b, f.all b → ¬ T b) : ShM w' f s :=
  { h with top := h.top.kp k (hT _ (.inl rfl)), gate := h.gate.kp k (fun b hb => hT b (.inr (.inl hb))), ranks := h.ranks.kp k (fun b hb => hT b (.inr (.inr (.inl hb)))), back := h.back.kp k (fun b hb => hT b (.inr (.inr (.inr hb)))) }
theorem ShM.old {w w' : World} {f : ShF} {s : Sh} (h : ShM w f s) (k : Kp none' w w') : ShM w' f s := h.kp k (fun _ _ x => x)
theorem ShM.lt {w : World} {f : ShF} {s : Sh} (h : ShM w f s) {b : Nat} (hb : f.all b) : b < w.heap.size := by
  rcases hb with rfl | hb | hb | hb
  · exact h.top.lt
  · exact h.gate.lt hb
  · exact h.ranks.lt hb
  · exact h.back.lt hb
end Go.Proofs.YtlaakhfgidjofaaGreatDoor
