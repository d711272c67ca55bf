/- What a block of memory holds, what a call leaves as it was, how a slice reads, and the law on one append: lemmas that name no function. -/
import Derived.WalkKit
import Derived.WalkLawsBesides
import Derived.WalkSpells
import Derived.Lib.Hide
import Derived.Deep.OwnRows
import Derived.Deep.RegionLaw
import Derived.ProofKit
import Derived.OpenShut
import Derived.Deep.Slices
import Derived.Deep.Strs
import Derived.Test.YtfckgddodjmbdaaGreatDoorProg
import Derived.Lib.TrailingZeros
import Derived.Laws.Bits64b
import Derived.BigGuard
import Derived.BigCall
import Derived.Test.YtfckgddodjmbdaaGreatDoorCards
import Derived.Test.YtfckgddodjmbdaaGreatDoorTie
import Derived.Deep.DeepHandedRow
import Derived.Lib.LaidTab
namespace Go.Proofs.YtfckgddodjmbdaaGreatDoor
set_option linter.unusedVariables false
set_option linter.unusedSimpArgs false
open Go.RowKit
structure Blk (w : World) (b : Nat) (cs : List Value) (t : TypeId) : Prop where
  is : w.heap[b]? = some (.cells cs.toArray t (0, 0))
theorem Blk.lt {w : World} {b : Nat} {cs : List Value} {t : TypeId} (h : Blk w b cs t) : b < w.heap.size :=
  (Array.getElem?_eq_some_iff.1 h.is).1
theorem Blk.cell {w : World} {b : Nat} {cs : List Value} {t : TypeId} (h : Blk w b cs t) (o : Nat) {v : Value} (hv : cs[o]? = some v) : w.cell? ⟨b, o, none⟩ = some v := by
  simp [World.cell?, h.is, hv]
theorem Blk.fz {w : World} {b : Nat} {cs : List Value} {t : TypeId} (h : Blk w b cs t) (o : Nat) : w.frozen? ⟨b, o, none⟩ = false := by
  simp [World.frozen?, h.is]
theorem Blk.set {w : World} {b : Nat} {cs : List Value} {t : TypeId} (h : Blk w b cs t) (o : Nat) (v : Value) : Blk (w.setCell ⟨b, o, none⟩ v) b (cs.set o v) t := by
  constructor
  simp [World.setCell, Array.getElem?_modify, h.is]
theorem Blk.setNe {w : World} {b : Nat} {cs : List Value} {t : TypeId} (h : Blk w b cs t) {a : Addr} (hne : b ≠ a.block) (v : Value) : Blk (w.setCell a v) b cs t :=
  ⟨(Below.heap_setCell _ _ _ _ hne).trans h.is⟩
theorem Blk.alloc {w : World} {b : Nat} {cs : List Value} {t : TypeId} (h : Blk w b cs t) (o : Obj) : Blk (w.alloc o) b cs t :=
  ⟨(Below.heap_alloc _ _ _ h.lt).trans h.is⟩
theorem heap_new (w : World) (o : Obj) : (w.alloc o).heap[w.heap.size]? = some o := by
  show (w.heap.push o)[w.heap.size]? = some o
  simp
theorem Blk.new (w : World) (cs : List Value) (t : TypeId) : Blk (w.alloc (.cells cs.toArray t)) w.heap.size cs t := ⟨heap_new _ _⟩
theorem Blk.drew {w : World} {b : Nat} {cs : List Value} {t : TypeId} (h : Blk w b cs t) : Blk w.drew b cs t := ⟨h.is⟩
theorem Blk.drewN {w : World} {b : Nat} {cs : List Value} {t : TypeId} (h : Blk w b cs t) (n : Nat) : Blk (w.drewN n) b cs t := ⟨h.is⟩
theorem Blk.grown {w w' : World} {b : Nat} {cs : List Value} {t : TypeId} {row : Option Nat} (h : Blk w b cs t) (hg : w.grownBy w' row) (hne : some b ≠ row) : Blk w' b cs t :=
  ⟨(hg.block b h.lt hne).trans h.is⟩
theorem heap_new2 (w : World) (o : Obj) (n : Nat) (h : n = w.heap.size) : (w.alloc o).drew.heap[n]? = some o := by subst h; exact heap_new w o
theorem Blk.inj {w : World} {b : Nat} {cs cs' : List Value} {t t' : TypeId} (h : Blk w b cs t) (h' : Blk w b cs' t') : cs = cs' ∧ t = t' := by
  have := h.is.symm.trans h'.is
  simp at this
  exact this
structure Kp (S : Nat → Prop) (w w' : World) : Prop where
  os : w'.os = w.os
  tape : w'.tape = w.tape
  output : w'.output = w.output
  size : w.heap.size ≤ w'.heap.size
  block : ∀ b, b < w.heap.size → ¬ S b → w'.heap[b]? = w.heap[b]?
abbrev none' : Nat → Prop := fun _ => False
theorem Kp.refl (S : Nat → Prop) (w : World) : Kp S w w := ⟨rfl, rfl, rfl, Nat.le_refl _, fun _ _ _ => rfl⟩
theorem Kp.trans {S : Nat → Prop} {a b c : World} (h : Kp S a b) (k : Kp S b c) : Kp S a c :=
  ⟨k.os.trans h.os, k.tape.trans h.tape, k.output.trans h.output, Nat.le_trans h.size k.size, fun i hi hs => (k.block i (Nat.lt_of_lt_of_le hi h.size) hs).trans (h.block i hi hs)⟩
theorem Kp.then {S T : Nat → Prop} {a b c : World} (h : Kp S a b) (k : Kp T b c) (hT : ∀ i, i < a.heap.size → T i → S i) : Kp S a c :=
  ⟨k.os.trans h.os, k.tape.trans h.tape, k.output.trans h.output, Nat.le_trans h.size k.size, fun i hi hs => (k.block i (Nat.lt_of_lt_of_le hi h.size) (fun ht => hs (hT i hi ht))).trans (h.block i hi hs)⟩
theorem Kp.mono {S T : Nat → Prop} {a b : World} (h : Kp S a b) (hT : ∀ i, i < a.heap.size → S i → T i) : Kp T a b :=
  ⟨h.os, h.tape, h.output, h.size, fun i hi hs => h.block i hi (fun x => hs (hT i hi x))⟩
theorem Kp.alloc {S : Nat → Prop} {a w : World} (h : Kp S a w) (o : Obj) : Kp S a (w.alloc o) :=
  ⟨h.os, h.tape, h.output, by simp; have := h.size; omega, fun i hi hs => (Below.heap_alloc _ _ _ (Nat.lt_of_lt_of_le hi h.size)).trans (h.block i hi hs)⟩
theorem Kp.drew {S : Nat → Prop} {a w : World} (h : Kp S a w) : Kp S a w.drew := ⟨h.os, h.tape, h.output, h.size, h.block⟩
theorem Kp.drewN {S : Nat → Prop} {a w : World} (h : Kp S a w) (n : Nat) : Kp S a (w.drewN n) := ⟨h.os, h.tape, h.output, h.size, h.block⟩
theorem Kp.set {S : Nat → Prop} {a w : World} (h : Kp S a w) {p : Addr} (hp : S p.block ∨ a.heap.size ≤ p.block) (u : Value) : Kp S a (w.setCell p u) :=
  ⟨h.os, h.tape, h.output, by simp [World.setCell]; exact h.size, fun i hi hs => (Below.heap_setCell _ _ _ _ (fun e => by subst e; rcases hp with hp | hp; (exact hs hp); omega)).trans (h.block i hi hs)⟩
theorem Kp.grown {S : Nat → Prop} {a w w' : World} {row : Option Nat} (h : Kp S a w) (hg : w.grownBy w' row) (hr : ∀ k, row = some k → S k ∨ a.heap.size ≤ k) : Kp S a w' :=
  ⟨hg.os.trans h.os, hg.tape.trans h.tape, hg.output.trans h.output, Nat.le_trans h.size hg.size,
    fun i hi hs => (hg.block i (Nat.lt_of_lt_of_le hi h.size) (fun e => by rcases hr i e.symm with h1 | h1; (exact hs h1); omega)).trans (h.block i hi hs)⟩
theorem Kp.below {S : Nat → Prop} {w w' : World} (h : Kp S w w') {B : Nat} (hB : B ≤ w.heap.size) (hS : ∀ b, b < B → ¬ S b) : Below B w w' :=
  ⟨h.os, h.tape, h.output, h.size, fun k hk => h.block k (by omega) (hS k hk)⟩
theorem Kp.of_below {w w' : World} {B : Nat} (h : Below B w w') : Kp (fun b => B ≤ b) w w' :=
  ⟨h.os, h.tape, h.output, h.size, fun b _ hs => h.block b (by omega)⟩
theorem Kp.cell {S : Nat → Prop} {w w' : World} (h : Kp S w w') {a : Addr} {v : Value} (hv : w.cell? a = some v) (hs : ¬ S a.block) : w'.cell? a = some v :=
  (World.cell?_of_block (h.block _ (World.block_lt_of_cell? w a hv) hs)).trans hv
theorem Blk.kp {S : Nat → Prop} {w w' : World} {b : Nat} {cs : List Value} {t : TypeId} (h : Blk w b cs t) (k : Kp S w w') (hs : ¬ S b) : Blk w' b cs t :=
  ⟨(k.block b h.lt hs).trans h.is⟩
structure Sl (w : World) (v : Value) (n sz : Nat) (cs : List Value) : Prop where
  len : cs.length = n * sz
  max : n ≤ 9223372036854775807
  is : ∃ ao cap, v = .slice ao n cap ∧ ∀ i u, cs[i]? = some u → ∃ b off, ao = some ⟨b, off, none⟩ ∧ w.cell? ⟨b, off + i, none⟩ = some u
theorem Sl.kp {S : Nat → Prop} {w w' : World} {v : Value} {n sz : Nat} {cs : List Value} (h : Sl w v n sz cs) (k : Kp S w w') (hs : ∀ b, b < w.heap.size → v.ownBlock = some b → ¬ S b) : Sl w' v n sz cs := by
  obtain ⟨ao, cap, rfl, hc⟩ := h.is
  refine ⟨h.len, h.max, ao, cap, rfl, fun i u hu => ?_⟩
  obtain ⟨b, off, rfl, hcell⟩ := hc i u hu
  exact ⟨b, off, rfl, k.cell hcell (hs b (World.block_lt_of_cell? w _ hcell) rfl)⟩
theorem Sl.old {w w' : World} {v : Value} {n sz : Nat} {cs : List Value} (h : Sl w v n sz cs) (k : Kp none' w w') : Sl w' v n sz cs := h.kp k (fun _ _ _ h => h)
theorem Sl.nil (w : World) (sz : Nat) : Sl w (.slice none 0 0) 0 sz [] := ⟨by simp, by omega, none, 0, rfl, fun i u h => by simp at h⟩
theorem own_sl {w : World} {base : Nat} {e : TypeId} {size : Nat} {v : Value} {n : Nat} {xs : List Value} (h : w.ownsRow base e size v n xs) : Sl w v n size xs := by
  obtain ⟨hl, h⟩ := h
  rcases h with ⟨rfl, rfl⟩ | ⟨g, cap, cur, rfl, hg, hh, hn, hm, hs, ht⟩
  · have : xs = [] := by simpa using hl
    subst this; exact Sl.nil w size
  · refine ⟨hl, by unfold maxLen at hm; omega, _, cap, rfl, fun i u hu => ⟨g, 0, rfl, ?_⟩⟩
    rw [← ht] at hu
    have hi : i < n * size := by
      have := (List.getElem?_eq_some_iff.1 hu).1
      simp at this; omega
    rw [List.getElem?_take, if_pos hi] at hu
    simp only [World.cell?, hh, Nat.zero_add]
    simpa using hu
theorem own_shape {w : World} {base : Nat} {e : TypeId} {size : Nat} {v : Value} {n : Nat} {xs : List Value} (h : w.ownsRow base e size v n xs) : ∃ ao cap, v = .slice ao n cap := by
  rcases h.2 with ⟨rfl, rfl⟩ | ⟨g, cap, cur, rfl, _⟩
  · exact ⟨_, _, rfl⟩
  · exact ⟨_, _, rfl⟩
theorem own_block {w : World} {base : Nat} {e : TypeId} {size : Nat} {v : Value} {n : Nat} {xs : List Value} (h : w.ownsRow base e size v n xs) {b : Nat} (hb : v.ownBlock = some b) : base ≤ b ∧ b < w.heap.size := h.lt b hb
theorem own_kp {S : Nat → Prop} {w w' : World} {base : Nat} {e : TypeId} {size : Nat} {v : Value} {n : Nat} {xs : List Value} (h : w.ownsRow base e size v n xs) (k : Kp S w w') (hs : ∀ b, v.ownBlock = some b → ¬ S b) : w'.ownsRow base e size v n xs := by
  refine ⟨h.1, ?_⟩
  rcases h.2 with ⟨rfl, rfl⟩ | ⟨g, cap, cur, rfl, hg, hh, r⟩
  · exact .inl ⟨rfl, rfl⟩
  · exact .inr ⟨g, cap, cur, rfl, hg, (k.block g (Array.getElem?_eq_some_iff.1 hh).1 (hs g rfl)).trans hh, r⟩
theorem own_base {w : World} {base base' : Nat} {e : TypeId} {size : Nat} {v : Value} {n : Nat} {xs : List Value} (h : w.ownsRow base e size v n xs) (hb : base' ≤ base) : w.ownsRow base' e size v n xs := by
  refine ⟨h.1, ?_⟩
  rcases h.2 with h | ⟨g, cap, cur, hv, hg, r⟩
  · exact .inl h
  · exact .inr ⟨g, cap, cur, hv, by omega, r⟩
structure SlT (P : Program) (t e : TypeId) (z : Value) (size bytes : Nat) : Prop where
  ht : P.underlying t = some (.slice e)
  info : (P.info? e).map (fun i => (i.zero, i.size, i.bytes)) = some (some z, size, bytes)
  hz : z.cells.size = size
  pos : 0 < size
theorem wp_app1 {P : Program} {t e : TypeId} {z : Value} {size bytes : Nat} (T : SlT P t e z size bytes) {ops : Array Oper} {rest : List Oper} {o : Oper} {a : Act} {Q : Exit → Act → World → Prop} {w : World} (s x : Operand)
    (hgd : o.guard = none) (ho : o.op = .call { callee := .builtin .append, args := #[s, x], argTypes := #[t, t] }) (base : Nat) {v : Value} {n : Nat} {xs : List Value} (hown : w.ownsRow base e size v n xs)
    {b c : Nat} (news : List Value) (hs : a.eval s = v) (hx : a.eval x = .slice (some ⟨b, 0, none⟩) 1 c) (hl : news.length = size) {fr : Nat × Nat} (hblk : w.heap[b]? = some (.cells news.toArray e fr)) (h1 : news.all (·.oneCell') = true)
    (hbytes : (n + 1) * bytes ≤ 140737488355328) (h63 : n < 9223372036854775807) (hbase : base ≤ w.heap.size)
    (h : ∀ g cap w', w'.ownsRow base e size (.slice (some ⟨g, 0, none⟩) (n + 1) cap) (n + 1) (xs ++ news) → w.grownBy w' v.ownBlock → wpList P ops Q rest (a.put o.dst (.slice (some ⟨g, 0, none⟩) (n + 1) cap)) w') : wpList P ops Q (o :: rest) a w := by
  obtain ⟨i, hi, hz0, hz1, hz2⟩ := info_parts T.info
  refine wpList_append_own w hgd s x t ho base e i z size bytes T.ht hi hz0 hz1 hz2 T.hz T.pos v n xs hs hown ⟨b, 0, none⟩ 1 c news hx (by simpa using hl) ?_ (by simpa using h1) (by unfold maxLen; omega) hbytes hbase ?_
  · intro j u hu
    have e : (⟨b, 0, none⟩ : Addr).add j = ⟨b, j, none⟩ := by unfold Addr.add; split <;> simp_all
    rw [e]; simp [World.cell?, hblk, hu]
  · intro v' w' hown' hg hnil
    rcases hown'.2 with ⟨_, h0⟩ | ⟨g, cap, cur, rfl, _⟩
    · omega
    · exact h g cap w' hown' hg
theorem step_app1 {P : Program} {t e : TypeId} {z : Value} {size bytes : Nat} (T : SlT P t e z size bytes) {ops : Array Oper} {o : Oper} {a : Act} {w : World} {K : Act → World → Prop} {Q : Exit → Act → World → Prop} {E : Prop} (s x : Operand)
    (hgd : o.guard = none) (ho : o.op = .call { callee := .builtin .append, args := #[s, x], argTypes := #[t, t] }) (base : Nat) {v : Value} {n : Nat} {xs : List Value} (hown : w.ownsRow base e size v n xs)
    {b c : Nat} (news : List Value) (hs : a.eval s = v) (hx : a.eval x = .slice (some ⟨b, 0, none⟩) 1 c) (hl : news.length = size) {fr : Nat × Nat} (hblk : w.heap[b]? = some (.cells news.toArray e fr)) (h1 : news.all (·.oneCell') = true)
    (hbytes : (n + 1) * bytes ≤ 140737488355328) (h63 : n < 9223372036854775807) (hbase : base ≤ w.heap.size)
    (h : ∀ g cap w', w'.ownsRow base e size (.slice (some ⟨g, 0, none⟩) (n + 1) cap) (n + 1) (xs ++ news) → w.grownBy w' v.ownBlock → K (a.put o.dst (.slice (some ⟨g, 0, none⟩) (n + 1) cap)) w') :
    if Region.wanted o (yielded ops a.tmps) = true then Oper.wp P o a w K Q else E := by
  have hw : Region.wanted o (yielded ops a.tmps) = true := by simp [Region.wanted, hgd]
  rw [if_pos hw]
  obtain ⟨i, hi, hz0, hz1, hz2⟩ := info_parts T.info
  refine wp_append_own w s x t ho base e i z size bytes T.ht hi hz0 hz1 hz2 T.hz T.pos v n xs hs hown ⟨b, 0, none⟩ 1 c news hx (by simpa using hl) ?_ (by simpa using h1) (by unfold maxLen; omega) hbytes hbase ?_
  · intro j u hu
    have e : (⟨b, 0, none⟩ : Addr).add j = ⟨b, j, none⟩ := by unfold Addr.add; split <;> simp_all
    rw [e]; simp [World.cell?, hblk, hu]
  · intro v' w' hown' hg hnil
    rcases hown'.2 with ⟨_, h0⟩ | ⟨g, cap, cur, rfl, _⟩
    · omega
    · exact h g cap w' hown' hg
theorem quiet0 {P : Program} {f : FuncId} {args : Array Value} {w : World} {n : Nat} {v : Value} (h : Calls P f args (w.drewN n) fun e w' => e = .returned v ∧ w.drewN n = w') :
    Calls P f args (w.drewN n) fun e w'' => e = .returned v ∧ ∃ m, w'' = w.drewN m :=
  h.mono fun _ _ ⟨he, hm⟩ => ⟨he, n, hm.symm⟩
theorem ret_bool {a b : Bool} (h : a = b) : Ending.returned (.bool a) = .returned (.bool b) := by rw [h]
theorem ret_int {k : IntKind} {a b : Int} (h : a = b) : Ending.returned (.int k a) = .returned (.int k b) := by rw [h]
end Go.Proofs.YtfckgddodjmbdaaGreatDoor

namespace Go.Proofs.YtfckgddodjmbdaaGreatDoor
set_option linter.unusedVariables false
set_option linter.unusedSimpArgs false
open Go.RowKit Go.Deep Go.ChangeShapes Go.WideShapes Go.ChangeAt
theorem flat_get {α : Type} (enc : α → List Value) (sz : Nat) (hl : ∀ a, (enc a).length = sz) (l : List α) (j i : Nat) (hi : i < sz) : (l.flatMap enc)[j * sz + i]? = (l[j]?).bind (fun a => (enc a)[i]?) := by
  induction l generalizing j with
  | nil => simp
  | cons a r ih =>
    cases j with
    | zero => simp only [List.flatMap_cons, Nat.zero_mul, Nat.zero_add]; rw [List.getElem?_append_left (by rw [hl]; exact hi)]; simp
    | succ j =>
      rw [List.flatMap_cons, List.getElem?_append_right (by rw [hl, Nat.succ_mul]; omega), hl, show (j + 1) * sz + i - sz = j * sz + i by rw [Nat.succ_mul]; omega, ih]
      simp
theorem flat_len {α : Type} (enc : α → List Value) (sz : Nat) (hl : ∀ a, (enc a).length = sz) (l : List α) : (l.flatMap enc).length = l.length * sz := by
  induction l with
  | nil => simp
  | cons a r ih => simp only [List.flatMap_cons, List.length_append, hl, ih, List.length_cons, Nat.succ_mul]; omega
theorem Sl.at {w : World} {v : Value} {n sz : Nat} {α : Type} {enc : α → List Value} {l : List α} (h : Sl w v n sz (l.flatMap enc)) (hl : ∀ a, (enc a).length = sz) (hp : 0 < sz) (j : Nat) (hj : j < l.length) :
    ∃ b off cap, v = .slice (some ⟨b, off, none⟩) n cap ∧ ∀ i u, (enc l[j])[i]? = some u → w.cell? ⟨b, off + j * sz + i, none⟩ = some u := by
  obtain ⟨ao, cap, rfl, hc⟩ := h.is
  have hg : ∀ i u, (enc l[j])[i]? = some u → (l.flatMap enc)[j * sz + i]? = some u := fun i u hu => by
    rw [flat_get enc sz hl l j i (by have := (List.getElem?_eq_some_iff.1 hu).1; rw [hl] at this; exact this), List.getElem?_eq_getElem hj]
    exact hu
  obtain ⟨u0, hu0⟩ : ∃ u, (enc l[j])[0]? = some u := ⟨(enc l[j])[0]'(by rw [hl]; exact hp), by simp⟩
  obtain ⟨b, off, rfl, _⟩ := hc _ _ (hg 0 u0 hu0)
  refine ⟨b, off, cap, rfl, fun i u hu => ?_⟩
  obtain ⟨b', off', e, h2⟩ := hc _ _ (hg i u hu)
  cases e
  rw [Nat.add_assoc]
  exact h2
section
variable {H : Type} {enc : TypeId × Value → H} {P : Program} {w : World} {base : Nat} {spare : Nat → Bool} {held : Bool}
theorem args_stay (hl : laidOutB P = true) : ∀ {ts : List TypeId} {vs : List Value} {ds : List (DataW H)} {ps : List MemPlace} {W W' : World}, DataW.TrodAll enc P W 0 (fun _ => true) true ts vs ds ps → Below W.heap.size W W' →
    (∀ x ∈ ps, x.block < W.heap.size) → (∀ t ∈ ts, P.readableRec t = true ∧ t < P.types.size) → DataW.TrodAll enc P W' 0 (fun b => decide (b < W.heap.size)) true ts vs ds ps := by
  intro ts
  induction ts with
  | nil =>
    intro vs ds ps W W' h _ _ _
    obtain ⟨rfl, rfl, rfl⟩ := trodAll_nil h
    exact trodAll_mk0
  | cons t ts ih =>
    intro vs ds ps W W' h hb hlt hr
    obtain ⟨v0, vs0, d0, ds0, p0, q0, rfl, rfl, rfl, h0, r0⟩ := trodAll_cons h
    refine trodAll_cons_mk (Below.trod hl (hr t (by simp)).1 (hr t (by simp)).2 h0 hb (fun x hx => hlt x (List.mem_append.2 (.inl hx)))) (ih r0 hb (fun x hx => hlt x (List.mem_append.2 (.inr hx))) (fun t ht => hr t (List.mem_cons_of_mem _ ht)))
end
theorem law_post {H : Type} {enc : TypeId × Value → H} {P : Program} {s : ChangeSpec} {f : Func} {apart fresh : Bool} {W W' : World} {args : Array Value} {ds gs : List (DataW H)} {before : List MemPlace} (T : TypeId) (hT : P.underlying T = some .bool) (hres : f.resultTypes = #[T])
    (hl : laidOutB P = true) (hr : ∀ t ∈ f.params.toList, P.readableRec t = true ∧ t < P.types.size)
    (hv : s.vars = []) (hW : DataW.Whole enc P f.params.toList s.vars apart W args.toList ds gs before) (hs : (s.fn H (ds ++ [])) = { results := [.lit (.bool true)], args := ds }) (hb : Below W.heap.size W W') :
    s.post enc P f apart fresh false false W args (.bool true) W' := by
  have hW' := hW
  obtain ⟨p, q, hA, hV, rfl, hfz, hnd⟩ := hW
  rw [hv] at hV
  obtain ⟨rfl, rfl⟩ := trodVars_none hV
  have hlt : ∀ x ∈ p, x.block < W.heap.size := fun x hx => by simpa using hW'.lt x (List.mem_append.2 (.inl hx))
  refine ⟨ds, [], p ++ [], [], p, [], hW', ?_, ?_, ?_, hb.frame _, fun h => by cases h⟩
  · rw [hs, hres]
    exact trodAll_cons_mk (shut_bool hT true) trodAll_mk0
  · rw [hs]; exact args_stay hl hA hb hlt hr
  · rw [hs, hv]; rfl
end Go.Proofs.YtfckgddodjmbdaaGreatDoor

namespace Go.Proofs.YtfckgddodjmbdaaGreatDoor
set_option linter.unusedVariables false
set_option linter.unusedSimpArgs false
open Go.RowKit
def Tab (w : World) : Prop := ∀ j, j < 64 → w.cell? ⟨0, j, none⟩ = some (.int .u8 (Lib.deBruijn64tab.getD j 0))
theorem Tab.kp {S : Nat → Prop} {w w' : World} (h : Tab w) (k : Kp S w w') (hs : ¬ S 0) : Tab w' := fun j hj => k.cell (h j hj) hs
set_option maxHeartbeats 1000000 in
theorem tz_core (x k idx : Nat) (w : World) (hx0 : ((x : Int) == 0) = false)
    (key : IntKind.u64.wrap (bits BinOp.and IntKind.u64 (x : Int) (IntKind.u64.wrap (-(x : Int))) * 285870213051353865) / 288230376151711744 = (idx : Int))
    (hi : idx < 64) (hk : k < 64) (hcell : w.cell? ⟨0, idx, none⟩ = some (.int .u8 k)) :
    Calls Tryz.prog 71 #[.int .u64 x] w fun e w' => e = .returned (.int .i64 k) ∧ w = w' := by
  go_enter Tryz.func71, Tryz.ntmps71
  go_wp2_with (simp only [key])
  go_ret
  exact ⟨rfl, rfl⟩
set_option maxHeartbeats 1000000 in
theorem tz_zero (w : World) : Calls Tryz.prog 71 #[.int .u64 0] w fun e w' => e = .returned (.int .i64 64) ∧ w = w' := by
  go_enter Tryz.func71, Tryz.ntmps71
  go_wp2
  go_ret
  exact ⟨rfl, rfl⟩
theorem tz_key (x a : Nat) (hx : x < 18446744073709551616) (hx0 : x ≠ 0) (hlow : x &&& (18446744073709551616 - x) = a) :
    IntKind.u64.wrap (bits BinOp.and IntKind.u64 (x : Int) (IntKind.u64.wrap (-(x : Int))) * 285870213051353865) / 288230376151711744 = ((a * 285870213051353865 % 18446744073709551616 / 288230376151711744 : Nat) : Int) := by
  have e1 : IntKind.u64.wrap (-(x : Int)) = ((18446744073709551616 - x : Nat) : Int) := by rw [IntKind.wrap_u64]; omega
  rw [e1, bits_and_u64_nat x _ hx (by omega), hlow, IntKind.wrap_u64]
  omega
theorem tz (x : Nat) (hx : x < 18446744073709551616) (w : World) (hT : Tab w) :
    Calls Tryz.prog 71 #[.int .u64 x] w fun e w' => e = .returned (.int .i64 (Lib.ctz 64 x)) ∧ w = w' := by
  by_cases hx0 : x = 0
  · subst hx0
    exact tz_zero w
  · obtain ⟨m, hm, hk⟩ := Lib.ctzFrom_spec 64 x (by omega) hx
    have e : Lib.ctz 64 x = Lib.ctzFrom 64 x := by simp [Lib.ctz, hx0]
    have hlow : x &&& (18446744073709551616 - x) = 2 ^ Lib.ctzFrom 64 x := by
      have := Lib.and_neg 64 (Lib.ctzFrom 64 x) m (by rw [← hm]; exact hx)
      rw [← hm] at this; exact this
    rw [e]
    obtain ⟨hi, htab⟩ := Lib.deBruijn64_at _ hk
    have hcell := hT _ hi
    rw [htab] at hcell
    exact tz_core x _ _ w (by simp; omega) (tz_key x _ hx hx0 hlow) hi hk hcell

theorem own34 : ownKnob Tryz.prog.godebug = none := by kernel_rfl
theorem gTab : Tryz.prog.globalNamed "math/bits.deBruijn64tab" = some 0 := by kernel_rfl
theorem gTabType : (Tryz.prog.globals[0]?).map (·.type) = some 222 := by kernel_rfl
theorem cellsTab : Tryz.prog.cellsOf 222 = 64 := by kernel_rfl
theorem cellsU8 : Tryz.prog.cellsOf 5 = 1 := by kernel_rfl
def tabZ : List Int := [0, 1, 56, 2, 57, 49, 28, 3, 61, 58, 42, 50, 38, 29, 17, 4, 62, 47, 59, 36, 45, 43, 51, 22, 53, 39, 33, 30, 24, 18, 12, 5, 63, 55, 48, 27, 60, 41, 37, 16, 46, 35, 44, 21, 52, 32, 23, 11, 54, 26, 40, 15, 34, 20, 31, 10, 25, 14, 19, 9, 13, 8, 7, 6]
theorem tab_of {W : World} (h : laidMetH Tryz.prog [("math/bits.deBruijn64tab", Rows.laid_math_bits_deBruijn64tab)] W) : Tab W := by
  have ht : Lib.TabIs Tryz.prog W "math/bits.deBruijn64tab" .u8 tabZ := Lib.tabIs_of_head (rest := []) gTab gTabType Tryz.underlying222 Tryz.underlying5 cellsU8 cellsTab h
  intro j hj
  have := ht.cell gTab j hj
  have e : tabZ.getD j 0 = ((Lib.deBruijn64tab.getD j 0 : Nat) : Int) := (by decide : ∀ j, j < 64 → tabZ.getD j 0 = ((Lib.deBruijn64tab.getD j 0 : Nat) : Int)) j hj
  rw [this, e]
noncomputable def laidWorld (os : Os) : World :=
  { World.holding Tryz.prog os ⟨#[], #[], []⟩ with heap := (World.holding Tryz.prog os ⟨#[], #[], []⟩).heap.modify 0 fun
      | .cells _ t frozen => .cells (tabZ.map fun z => Value.int .u8 z).toArray t frozen
      | o => o }
theorem laid_met (os : Os) (args : Array Value) : laidMet Tryz.prog [("math/bits.deBruijn64tab", Rows.laid_math_bits_deBruijn64tab)] ((laidWorld os).forCall (fun _ _ => 0) ⟨#[], args, []⟩).memory :=
  laidMet_of_run' 8 (by kernel_rfl) (by kernel_rfl)
end Go.Proofs.YtfckgddodjmbdaaGreatDoor

namespace Go.Proofs.YtfckgddodjmbdaaGreatDoor
set_option linter.unusedVariables false
set_option linter.unusedSimpArgs false
structure En (α : Type) where
  rank : Nat
  came : Nat
  x : α
variable {α : Type}
def ahd (a b : En α) : Bool := decide (a.rank < b.rank) || (decide (a.rank = b.rank) && decide (a.came < b.came))
theorem ahd_iff {a b : En α} : ahd a b = true ↔ a.rank < b.rank ∨ (a.rank = b.rank ∧ a.came < b.came) := by unfold ahd; simp
theorem ahd_not {a b : En α} : ahd a b = false ↔ ¬ (a.rank < b.rank ∨ (a.rank = b.rank ∧ a.came < b.came)) := by rw [← ahd_iff]; simp
theorem ahd_trans {a b c : En α} (h : ahd a b = false) (g : ahd b c = false) : ahd a c = false := by
  rw [ahd_not] at *; omega
theorem ahd_asymm {a b : En α} (h : ahd a b = true) : ahd b a = false := by
  rw [ahd_iff] at h; rw [ahd_not]; omega
theorem ahd_refl (a : En α) : ahd a a = false := by rw [ahd_not]; omega
def atE (z : En α) (l : List (En α)) (i : Nat) : En α := (l[i]?).getD z
theorem atE_get {z : En α} {l : List (En α)} {i : Nat} (h : i < l.length) : atE z l i = l[i] := by unfold atE; simp [h]
def swp (z : En α) (l : List (En α)) (i p : Nat) : List (En α) := (l.set i (atE z l p)).set p (atE z l i)
theorem swp_len (z : En α) (l : List (En α)) (i p : Nat) : (swp z l i p).length = l.length := by simp [swp]
theorem atE_swp {z : En α} {l : List (En α)} {i p : Nat} (hi : i < l.length) (hp : p < l.length) (j : Nat) : atE z (swp z l i p) j = if j = p then atE z l i else if j = i then atE z l p else atE z l j := by
  unfold swp
  by_cases h1 : j = p
  · subst h1
    rw [if_pos rfl, atE_get (by simpa using hp)]
    simp
  · rw [if_neg h1]
    by_cases h2 : j = i
    · subst h2
      rw [if_pos rfl, atE_get (by simpa using hi), List.getElem_set_ne (fun e => h1 e.symm)]
      simp
    · rw [if_neg h2]
      unfold atE
      rw [List.getElem?_set_ne (fun e => h1 e.symm), List.getElem?_set_ne (fun e => h2 e.symm)]
theorem set_perm {l : List (En α)} {i : Nat} (h : i < l.length) (a : En α) : (l[i] :: l.set i a).Perm (a :: l) := by
  induction l generalizing i with
  | nil => simp at h
  | cons b l ih =>
    cases i with
    | zero => simp only [List.getElem_cons_zero, List.set_cons_zero]; exact List.Perm.swap _ _ _
    | succ i =>
      simp only [List.getElem_cons_succ, List.set_cons_succ]
      have := ih (i := i) (by simpa using h)
      exact (List.Perm.swap _ _ _).trans ((this.cons b).trans (List.Perm.swap _ _ _))
theorem swp_perm {z : En α} {l : List (En α)} {i p : Nat} (hi : i < l.length) (hp : p < l.length) (hne : i ≠ p) : (swp z l i p).Perm l := by
  have h1 := set_perm hi (atE z l p)
  have hp2 : p < (l.set i (atE z l p)).length := by simpa using hp
  have h2 := set_perm hp2 (atE z l i)
  have e1 : (l.set i (atE z l p))[p] = l[p] := List.getElem_set_ne hne _
  rw [e1] at h2
  have e2 : atE z l i = l[i] := atE_get hi
  have e3 : atE z l p = l[p] := atE_get hp
  have h3 : (l[p] :: swp z l i p).Perm (l[p] :: l) := by
    have h4 : (l[p] :: swp z l i p).Perm (l[i] :: l.set i (atE z l p)) := by
      unfold swp; rw [e2] at h2 ⊢; exact h2
    rw [e3] at h1 h4
    exact h4.trans h1
  exact (List.perm_cons _).1 h3
def HeapOk (z : En α) (l : List (En α)) : Prop := ∀ i, i < l.length → 0 < i → ahd (atE z l i) (atE z l ((i - 1) / 2)) = false
def UpOk (z : En α) (l : List (En α)) (i : Nat) : Prop := (∀ j, j < l.length → 0 < j → j ≠ i → ahd (atE z l j) (atE z l ((j - 1) / 2)) = false) ∧
  ∀ j, j < l.length → 0 < j → (j - 1) / 2 = i → 0 < i → ahd (atE z l j) (atE z l ((i - 1) / 2)) = false
theorem up_stop {z : En α} {l : List (En α)} {i : Nat} (h : UpOk z l i) (hs : i = 0 ∨ ahd (atE z l i) (atE z l ((i - 1) / 2)) = false) : HeapOk z l := by
  intro j hj h0
  by_cases e : j = i
  · subst e
    rcases hs with hs | hs
    · omega
    · exact hs
  · exact h.1 j hj h0 e
theorem up_step {z : En α} {l : List (En α)} {i : Nat} (h : UpOk z l i) (hi : i < l.length) (h0 : 0 < i) (ha : ahd (atE z l i) (atE z l ((i - 1) / 2)) = true) : UpOk z (swp z l i ((i - 1) / 2)) ((i - 1) / 2) := by
  obtain ⟨p, hp⟩ : ∃ p, (i - 1) / 2 = p := ⟨_, rfl⟩
  rw [hp] at ha ⊢
  have hpi : p < i := by omega
  have hpl : p < l.length := by omega
  have hno := ahd_asymm ha
  refine ⟨fun j hj hj0 hne => ?_, fun j hj hj0 hjp hp0 => ?_⟩
  · rw [swp_len] at hj
    rw [atE_swp hi hpl, atE_swp hi hpl, if_neg hne]
    by_cases e : j = i
    · subst e
      rw [if_pos rfl, if_pos hp]; exact hno
    · rw [if_neg e]
      by_cases e1 : (j - 1) / 2 = p
      · rw [if_pos e1]
        have h1 := h.1 j hj hj0 e
        rw [e1] at h1
        exact ahd_trans h1 hno
      · rw [if_neg e1]
        by_cases e2 : (j - 1) / 2 = i
        · rw [if_pos e2]
          have h1 := h.2 j hj hj0 e2 h0
          rwa [hp] at h1
        · rw [if_neg e2]; exact h.1 j hj hj0 e
  · rw [swp_len] at hj
    rw [atE_swp hi hpl, atE_swp hi hpl]
    have hpp : (p - 1) / 2 ≠ p := by omega
    have hppi : (p - 1) / 2 ≠ i := by omega
    rw [if_neg hpp, if_neg hppi]
    have hp1 := h.1 p hpl hp0 (by omega)
    by_cases e : j = p
    · omega
    · rw [if_neg e]
      by_cases e1 : j = i
      · rw [if_pos e1]; exact hp1
      · rw [if_neg e1]
        have h1 := h.1 j hj hj0 e1
        rw [hjp] at h1
        exact ahd_trans h1 hp1
def DownOk (z : En α) (l : List (En α)) (i : Nat) : Prop := (∀ j, j < l.length → 0 < j → (j - 1) / 2 ≠ i → ahd (atE z l j) (atE z l ((j - 1) / 2)) = false) ∧
  ∀ j, j < l.length → 0 < j → (j - 1) / 2 = i → 0 < i → ahd (atE z l j) (atE z l ((i - 1) / 2)) = false
theorem down_stop {z : En α} {l : List (En α)} {i : Nat} (h : DownOk z l i) (hs : ∀ j, j < l.length → 0 < j → (j - 1) / 2 = i → ahd (atE z l j) (atE z l i) = false) : HeapOk z l := by
  intro j hj h0
  by_cases e : (j - 1) / 2 = i
  · rw [e]; exact hs j hj h0 e
  · exact h.1 j hj h0 e
theorem down_step {z : En α} {l : List (En α)} {i u : Nat} (h : DownOk z l i) (hu : u < l.length) (hui : (u - 1) / 2 = i) (h0 : 0 < u) (ha : ahd (atE z l u) (atE z l i) = true) (hb : ∀ j, j < l.length → 0 < j → (j - 1) / 2 = i → ahd (atE z l j) (atE z l u) = false) : DownOk z (swp z l i u) u := by
  have hiu : i < u := by omega
  have hil : i < l.length := by omega
  have hno := ahd_asymm ha
  refine ⟨fun j hj hj0 hne => ?_, fun j hj hj0 hju hu0 => ?_⟩
  · rw [swp_len] at hj
    rw [atE_swp hil hu, atE_swp hil hu, if_neg hne]
    by_cases e : j = u
    · subst e
      rw [if_pos rfl, if_pos hui]; exact hno
    · rw [if_neg e]
      by_cases e1 : j = i
      · subst e1
        have e2 : (j - 1) / 2 ≠ j := by omega
        rw [if_pos rfl, if_neg e2]
        exact h.2 u hu h0 hui hj0
      · rw [if_neg e1]
        by_cases e2 : (j - 1) / 2 = i
        · rw [if_pos e2]; exact hb j hj hj0 e2
        · rw [if_neg e2]; exact h.1 j hj hj0 e2
  · rw [swp_len] at hj
    rw [atE_swp hil hu, atE_swp hil hu, hui, if_neg (by omega), if_pos rfl]
    have e : j ≠ u := by omega
    have e1 : j ≠ i := by omega
    rw [if_neg e1, if_neg (show ¬ i = u by omega)]
    have h1 := h.1 j hj hj0 (by omega)
    rwa [hju] at h1
theorem root_least {z : En α} {l : List (En α)} (h : HeapOk z l) : ∀ (n j : Nat), j ≤ n → j < l.length → ahd (atE z l j) (atE z l 0) = false
  | 0, j, hn, _ => by
    have : j = 0 := by omega
    subst this; exact ahd_refl _
  | n + 1, j, hn, hj => by
    by_cases e : j = 0
    · subst e; exact ahd_refl _
    · exact ahd_trans (h j hj (by omega)) (root_least h n ((j - 1) / 2) (by omega) (by omega))
def Srt (S : List (En α)) : Prop := S.Pairwise fun a b => ahd a b = true
def insE : List (En α) → En α → List (En α)
  | [], e => [e]
  | y :: l, e => if e.rank < y.rank then e :: y :: l else y :: insE l e
theorem insE_perm (e : En α) : ∀ S : List (En α), (insE S e).Perm (e :: S)
  | [] => List.Perm.refl _
  | y :: l => by
    unfold insE
    split
    · exact List.Perm.refl _
    · exact ((insE_perm e l).cons y).trans (List.Perm.swap _ _ _)
theorem insE_srt {e : En α} : ∀ {S : List (En α)}, Srt S → (∀ s ∈ S, s.came < e.came) → Srt (insE S e)
  | [], _, _ => by unfold insE Srt; simp
  | y :: l, h, hc => by
    unfold Srt at h
    rw [List.pairwise_cons] at h
    unfold insE
    split
    · rename_i hlt
      unfold Srt
      rw [List.pairwise_cons, List.pairwise_cons]
      refine ⟨fun a ha => ?_, h.1, h.2⟩
      rcases List.mem_cons.1 ha with rfl | ha
      · rw [ahd_iff]; exact .inl hlt
      · have h1 := h.1 a ha
        rw [ahd_iff] at h1 ⊢; omega
    · rename_i hlt
      have ih := insE_srt (e := e) (S := l) h.2 (fun s hs => hc s (by simp [hs]))
      unfold Srt at ih ⊢
      rw [List.pairwise_cons]
      refine ⟨fun a ha => ?_, ih⟩
      rcases List.mem_cons.1 ((insE_perm e l).mem_iff.1 ha) with rfl | ha
      · have := hc y (by simp)
        rw [ahd_iff]; omega
      · exact h.1 a ha
structure HpR (z : En α) (n : Nat) (l S : List (En α)) : Prop where
  heap : HeapOk z l
  perm : l.Perm S
  srt : Srt S
  came : ∀ s ∈ S, s.came < n
theorem HpR.nil (z : En α) (n : Nat) : HpR z n [] [] := ⟨fun i h => by simp at h, List.Perm.refl _, List.Pairwise.nil, fun s h => by cases h⟩
theorem HpR.len {z : En α} {n : Nat} {l S : List (En α)} (h : HpR z n l S) : l.length = S.length := h.perm.length_eq
theorem HpR.head {z : En α} {n : Nat} {l S : List (En α)} (h : HpR z n l S) (h0 : 0 < l.length) : ∃ T, S = atE z l 0 :: T := by
  cases S with
  | nil => have := h.len; rw [List.length_nil] at this; omega
  | cons s T =>
    refine ⟨T, ?_⟩
    have h1 : s ∈ l := h.perm.mem_iff.2 (by simp)
    obtain ⟨j, hj, e⟩ := List.getElem_of_mem h1
    have h2 := root_least h.heap j j (Nat.le_refl _) hj
    rw [atE_get hj, e] at h2
    have h3 : atE z l 0 ∈ s :: T := h.perm.mem_iff.1 (by rw [atE_get h0]; exact List.getElem_mem h0)
    rcases List.mem_cons.1 h3 with h3 | h3
    · rw [h3]
    · have := h.srt
      unfold Srt at this
      rw [List.pairwise_cons] at this
      rw [this.1 _ h3] at h2; cases h2
theorem HpR.push {z : En α} {n : Nat} {l l' S : List (En α)} {e : En α} (h : HpR z n l S) (hn : e.came = n) (hp : l'.Perm (l ++ [e])) (hh : HeapOk z l') : HpR z (n + 1) l' (insE S e) := by
  refine ⟨hh, ?_, insE_srt h.srt (fun s hs => by rw [hn]; exact h.came s hs), fun s hs => ?_⟩
  · have h1 : (l ++ [e]).Perm (e :: l) := List.perm_append_comm
    exact hp.trans (h1.trans ((h.perm.cons e).trans (insE_perm e S).symm))
  · rcases List.mem_cons.1 ((insE_perm e S).mem_iff.1 hs) with rfl | hs
    · omega
    · have := h.came s hs; omega
theorem HpR.pop {z : En α} {n : Nat} {l l' S T : List (En α)} (h : HpR z n l S) (hS : S = atE z l 0 :: T) (hp : (atE z l 0 :: l').Perm l) (hh : HeapOk z l') : HpR z n l' T := by
  subst hS
  refine ⟨hh, (List.perm_cons _).1 (hp.trans h.perm), ?_, fun s hs => h.came s (by simp [hs])⟩
  have := h.srt
  unfold Srt at this
  rw [List.pairwise_cons] at this
  exact this.2
theorem up_first {z : En α} {l : List (En α)} (e : En α) (h : HeapOk z l) : UpOk z (l ++ [e]) l.length := by
  have hat : ∀ j, j < l.length → atE z (l ++ [e]) j = atE z l j := fun j hj => by unfold atE; rw [List.getElem?_append_left hj]
  refine ⟨fun j hj h0 hne => ?_, fun j hj h0 hjp _ => ?_⟩
  · rw [List.length_append, List.length_singleton] at hj
    rw [hat j (by omega), hat _ (by omega)]; exact h j (by omega) h0
  · rw [List.length_append, List.length_singleton] at hj; omega
theorem down_first {z : En α} {l : List (En α)} (h : HeapOk z l) (h0 : 1 < l.length) : DownOk z ((l.set 0 (atE z l (l.length - 1))).take (l.length - 1)) 0 ∧ (atE z l 0 :: (l.set 0 (atE z l (l.length - 1))).take (l.length - 1)).Perm l := by
  have hat : ∀ j, 0 < j → j < l.length - 1 → atE z ((l.set 0 (atE z l (l.length - 1))).take (l.length - 1)) j = atE z l j := fun j hj hjl => by
    unfold atE
    rw [List.getElem?_take_of_lt hjl, List.getElem?_set_ne (by omega)]
  refine ⟨⟨fun j hj hj0 hne => ?_, fun j hj hj0 hjp h1 => by omega⟩, ?_⟩
  · rw [List.length_take, List.length_set] at hj
    rw [hat j hj0 (by omega), hat _ (by omega) (by omega)]; exact h j (by omega) hj0
  · match l, h0 with
    | a :: b :: r, _ =>
      have hl : (a :: b :: r).length - 1 = r.length + 1 := by simp
      have e1 : atE z (a :: b :: r) 0 = a := rfl
      obtain ⟨q, c, hq⟩ : ∃ q c, b :: r = q ++ [c] := ⟨(b :: r).dropLast, (b :: r).getLast (by simp), (List.dropLast_concat_getLast (by simp)).symm⟩
      have hlen : q.length = r.length := by have := congrArg List.length hq; simp at this; omega
      have e2 : atE z (a :: b :: r) (r.length + 1) = c := by
        unfold atE
        rw [List.getElem?_cons_succ, hq, List.getElem?_append_right (by omega), hlen]; simp
      rw [hl, e1, e2, List.set_cons_zero, List.take_succ_cons, hq, ← hlen, List.take_append_of_le_length (Nat.le_refl _), List.take_length]
      exact (List.Perm.cons a (List.perm_append_comm (l₁ := q) (l₂ := [c])).symm)
end Go.Proofs.YtfckgddodjmbdaaGreatDoor
