/- strings.Builder at this dump: what a builder holds, and what writing to it and asking it leave. -/
import Derived.Test.YtacgabagfdlpeaaGreatDoorOwn
import Derived.Test.YtacgabagfdlpeaaGreatDoorStr
import Derived.Test.YtacgabagfdlpeaaGreatDoorShelf
import Derived.Lib.Builder
import Derived.Lib.AppendStr
import Derived.Laws.BytesArg
namespace Go.Proofs.YtacgabagfdlpeaaGreatDoor
set_option linter.unusedVariables false
set_option linter.unusedSimpArgs false
open Go.RowKit Go.Shelf

theorem tU8 : SlT Tryz.prog 45 5 (.int .u8 0) 1 1 := ⟨Tryz.underlying45, by kernel_rfl, rfl, by decide⟩

/-- The block b holds a builder that holds the bytes l; all of it lies from B on. -/
structure BdAt (B b : Nat) (p : Value) (l : List UInt8) (w : World) : Prop where
  le : B ≤ b
  is : ∃ v, w.heap[b]? = some (.cells #[p, v] 47 (0, 0)) ∧ w.ownsRow B 5 1 v l.length (Lib.byteCells l)
def Bd (B b : Nat) (l : List UInt8) (w : World) : Prop := BdAt B b (.pointer none) l w ∨ BdAt B b (.pointer (some ⟨b, 0, none⟩)) l w
theorem Bd.get {B b : Nat} {l : List UInt8} {w : World} (h : Bd B b l w) : ∃ p, BdAt B b p l w := by
  rcases h with h | h <;> exact ⟨_, h⟩
theorem BdAt.lt {B b : Nat} {p : Value} {l : List UInt8} {w : World} (h : BdAt B b p l w) : b < w.heap.size := by
  obtain ⟨v, h1, _⟩ := h.is
  exact (Array.getElem?_eq_some_iff.1 h1).1
theorem Bd.lt {B b : Nat} {l : List UInt8} {w : World} (h : Bd B b l w) : b < w.heap.size := by
  obtain ⟨_, h⟩ := h.get; exact h.lt
theorem Bd.le {B b : Nat} {l : List UInt8} {w : World} (h : Bd B b l w) : B ≤ b := by
  obtain ⟨_, h⟩ := h.get; exact h.le
/-- What is written of a builder: itself, and rows of bytes. -/
def BS (w : World) (B b : Nat) : Nat → Prop := fun k => k = b ∨ (B ≤ k ∧ ∃ cs fr, w.heap[k]? = some (.cells cs 5 fr))
theorem bd_row {w : World} {B : Nat} {v : Value} {n : Nat} {xs : List Value} (h : w.ownsRow B 5 1 v n xs) {k : Nat} (hk : v.ownBlock = some k) : B ≤ k ∧ ∃ cs fr, w.heap[k]? = some (.cells cs 5 fr) := by
  rcases h.2 with ⟨rfl, _⟩ | ⟨g, cap, cur, rfl, hg, hh, _⟩
  · cases hk
  · injection hk with e; subst e; exact ⟨hg, _, _, hh⟩
theorem bd_ne {w : World} {B b : Nat} {v : Value} {n : Nat} {xs : List Value} {cs : Array Value} {fr : Nat × Nat} (h : w.ownsRow B 5 1 v n xs) (hb : w.heap[b]? = some (.cells cs 47 fr)) : v.ownBlock ≠ some b := by
  intro e
  obtain ⟨_, _, _, h2⟩ := bd_row h e
  rw [hb] at h2; simp at h2
theorem BdAt.kp {S : Nat → Prop} {w w' : World} {B b : Nat} {p : Value} {l : List UInt8} (h : BdAt B b p l w) (k : Kp S w w') (h1 : ¬ S b) (h2 : ∀ j, B ≤ j → (∃ cs fr, w.heap[j]? = some (.cells cs 5 fr)) → ¬ S j) : BdAt B b p l w' := by
  obtain ⟨v, h3, h4⟩ := h.is
  exact ⟨h.le, v, (k.block b h.lt h1).trans h3, own_kp h4 k (fun j hj => h2 j (bd_row h4 hj).1 (bd_row h4 hj).2)⟩
theorem Bd.kp {S : Nat → Prop} {w w' : World} {B b : Nat} {l : List UInt8} (h : Bd B b l w) (k : Kp S w w') (h1 : ¬ S b) (h2 : ∀ j, B ≤ j → (∃ cs fr, w.heap[j]? = some (.cells cs 5 fr)) → ¬ S j) : Bd B b l w' :=
  h.elim (fun x => .inl (x.kp k h1 h2)) (fun x => .inr (x.kp k h1 h2))
theorem Bd.old {w w' : World} {B b : Nat} {l : List UInt8} (h : Bd B b l w) (k : Kp none' w w') : Bd B b l w' := h.kp k id (fun _ _ _ x => x)
theorem Bd.new (w : World) (B : Nat) (hB : B ≤ w.heap.size) : Bd B w.heap.size [] (w.alloc (.cells #[.pointer none, .slice none 0 0] 47)) :=
  .inl ⟨hB, _, heap_new _ _, World.ownsRow_nil _ _ _ _⟩
/-- But for the builder the world is as it was. -/
def KB (B b : Nat) (w w' : World) : Prop := Kp (BS w B b) w w'
theorem KB.refl (B b : Nat) (w : World) : KB B b w w := Kp.refl _ _
theorem KB.trans {B b : Nat} {w0 w w' : World} (h : KB B b w0 w) (k : KB B b w w') : KB B b w0 w' :=
  ⟨k.os.trans h.os, k.tape.trans h.tape, k.output.trans h.output, Nat.le_trans h.size k.size, fun i hi hs => by
    have h1 := h.block i hi hs
    refine (k.block i (Nat.lt_of_lt_of_le hi h.size) (fun e => hs ?_)).trans h1
    rcases e with e | ⟨e, e2⟩
    · exact .inl e
    · exact .inr ⟨e, by rw [← h1]; exact e2⟩⟩
theorem KB.old {B b : Nat} {w w' : World} (h : Kp none' w w') : KB B b w w' := h.mono (fun _ _ x => x.elim)
theorem KB.none {B b : Nat} {w0 w w' : World} (h : Kp none' w0 w) (k : KB B b w w') (hB : w0.heap.size ≤ B) (hb : B ≤ b) : Kp none' w0 w' :=
  h.then k (fun i hi e => by rcases e with e | ⟨e, _⟩ <;> omega)
theorem Blk.kb {B b : Nat} {w w' : World} {k : Nat} {cs : List Value} {t : TypeId} (h : Blk w k cs t) (hk : KB B b w w') (h1 : k ≠ b) (h2 : t ≠ 5) : Blk w' k cs t :=
  h.kp hk (fun e => by
    rcases e with e | ⟨_, c, fr, e⟩
    · exact h1 e
    · rw [h.is] at e; injection e with e; injection e with _ e _; exact h2 e)
theorem Sl.kb {B b : Nat} {w w' : World} {v : Value} {n sz : Nat} {cs : List Value} (h : Sl w v n sz cs) (hk : KB B b w w') (hv : ∀ k, v.ownBlock = some k → k < B) (hb : B ≤ b) : Sl w' v n sz cs :=
  h.kp hk (fun k _ hk e => by
    have := hv k hk
    rcases e with e | ⟨e, _⟩ <;> omega)
theorem Bd.is {B b : Nat} {l : List UInt8} {w : World} (h : Bd B b l w) : Lib.IsBuilder 47 5 B b (Lib.byteCells l) w := by
  have hl : (Lib.byteCells l).length = l.length := by simp [Lib.byteCells]
  rcases h with ⟨h, v, h1, h2⟩ | ⟨h, v, h1, h2⟩
  · exact .inl ⟨h, v, h1, by rw [hl]; exact h2, bd_ne h2 h1⟩
  · exact .inr ⟨h, v, h1, by rw [hl]; exact h2, bd_ne h2 h1⟩

theorem kp_at (w : World) (b o : Nat) (u : Value) : Kp (fun k => k = b) w (w.setCell ⟨b, o, none⟩ u) := (Kp.refl (fun k => k = b) w).set (p := ⟨b, o, none⟩) (.inl rfl) u

set_option maxRecDepth 100000 in
set_option maxHeartbeats 1000000 in
theorem bCheckUsed (b : Nat) (w : World) (h0 : w.cell? ⟨b, 0, none⟩ = some (.pointer (some ⟨b, 0, none⟩))) :
    Calls Tryz.prog 26 #[.pointer (some ⟨b, 0, none⟩)] w fun e w' => e = .returned (.tuple #[]) ∧ w = w' := by
  obtain ⟨j, hj, hjs⟩ := Option.map_eq_some_iff.1 (show (Tryz.prog.info? 47).map (·.size) = some 2 by kernel_rfl)
  go_enter Tryz.func26, Tryz.ntmps26
  go_wp2
  rw [Lib.run_neq_ptr_same w _ Tryz.underlying44 hj]
  go_wp2
  go_end0
  exact ⟨rfl, rfl⟩

set_option maxRecDepth 100000 in
set_option maxHeartbeats 1000000 in
theorem bCheckFresh (b : Nat) (w : World) (h0 : w.cell? ⟨b, 0, none⟩ = some (.pointer none)) (hsh : w.shape? b = some (47, 2)) (hfz : w.frozen? ⟨b, 0, none⟩ = false) :
    Calls Tryz.prog 26 #[.pointer (some ⟨b, 0, none⟩)] w fun e w' => e = .returned (.tuple #[]) ∧ w.setCell ⟨b, 0, none⟩ (.pointer (some ⟨b, 0, none⟩)) = w' := by
  obtain ⟨j, hj, hjs⟩ := Option.map_eq_some_iff.1 (show (Tryz.prog.info? 47).map (·.size) = some 2 by kernel_rfl)
  go_enter Tryz.func26, Tryz.ntmps26
  go_wp2
  rw [Lib.run_to_unsafe w ⟨b, 0, none⟩ Tryz.underlying44 Tryz.underlying124 hj (by rw [hjs]; decide) hsh (Nat.zero_lt_succ 1)]
  simp only [Result.andThen]
  rw [Oper.upon_value]
  go_wp2
  rw [run_callFunc_extern Tryz.func46 (by kernel_rfl) (by kernel_rfl) (by kernel_rfl) (e := Extern.AbiNoEscape.same) (by kernel_rfl)]
  rw [Lib.run_noEscape]
  simp only [Result.andThen]
  rw [Oper.upon_value]
  go_wp2
  rw [Lib.run_from_unsafe w ⟨b, 0, none⟩ Tryz.underlying124 Tryz.underlying44 hj hsh (by kernel_rfl)]
  simp only [Result.andThen]
  rw [Oper.upon_value]
  go_wp2
  go_end0
  exact ⟨rfl, rfl⟩

theorem bCheck {B b : Nat} {l : List UInt8} {w : World} (h : Bd B b l w) :
    Calls Tryz.prog 26 #[.pointer (some ⟨b, 0, none⟩)] w fun e w' => e = .returned (.tuple #[]) ∧ BdAt B b (.pointer (some ⟨b, 0, none⟩)) l w' ∧ KB B b w w' := by
  rcases h with h | h
  · obtain ⟨v, h1, h2⟩ := h.is
    refine (bCheckFresh b w (by simp [World.cell?, h1]) (by simp [World.shape?, h1]) (by simp [World.frozen?, h1])).mono ?_
    rintro e w' ⟨rfl, rfl⟩
    refine ⟨rfl, ⟨h.le, v, by simp [World.setCell, Array.getElem?_modify, h1], ?_⟩, (Kp.refl _ _).set (.inl (.inl rfl)) _⟩
    exact own_kp (S := fun k => k = b) h2 (kp_at _ _ _ _) (fun j hj e => bd_ne h2 h1 (by rw [hj, e]))
  · obtain ⟨v, h1, h2⟩ := h.is
    refine (bCheckUsed b w (by simp [World.cell?, h1])).mono ?_
    rintro e w' ⟨rfl, rfl⟩
    exact ⟨rfl, h, Kp.refl _ _⟩

/-- The buffer's new row is stored. -/
theorem bd_put {B b : Nat} {p v v' : Value} {l l' : List UInt8} {w1 w2 : World} (hB : B ≤ b) (h1 : w1.heap[b]? = some (.cells #[p, v] 47 (0, 0))) (ho1 : w1.ownsRow B 5 1 v l.length (Lib.byteCells l))
    (hg : w1.grownBy w2 v.ownBlock) (ho : w2.ownsRow B 5 1 v' l'.length (Lib.byteCells l')) :
    w2.heap[b]? = some (.cells #[p, v] 47 (0, 0)) ∧ BdAt B b p l' (w2.setCell ⟨b, 1, none⟩ v') ∧ KB B b w1 (w2.setCell ⟨b, 1, none⟩ v') := by
  have hlt : b < w1.heap.size := (Array.getElem?_eq_some_iff.1 h1).1
  have hw : w2.heap[b]? = some (.cells #[p, v] 47 (0, 0)) := (hg.block b hlt (fun e => bd_ne ho1 h1 e.symm)).trans h1
  refine ⟨hw, ⟨hB, v', by simp [World.setCell, Array.getElem?_modify, hw], ?_⟩, ?_⟩
  · exact own_kp (S := fun k => k = b) ho (kp_at _ _ _ _) (fun j hj e => bd_ne ho hw (by rw [hj, e]))
  · exact ((Kp.refl _ _).grown hg (fun k hk => .inl (.inr (bd_row ho1 hk)))).set (.inl (.inl rfl)) _

theorem cells_snoc (l : List UInt8) (c : UInt8) : Lib.byteCells (l ++ [c]) = Lib.byteCells l ++ [.int .u8 c.toNat] := by simp [Lib.byteCells]
theorem cells_app (l k : List UInt8) : Lib.byteCells (l ++ k) = Lib.byteCells l ++ Lib.byteCells k := by simp [Lib.byteCells]
theorem cells_len (l : List UInt8) : (Lib.byteCells l).length = l.length := by simp [Lib.byteCells]
theorem cells_str (s : ByteArray) : Lib.strCells s = Lib.byteCells (bl s) := by
  simp [Lib.strCells, Lib.byteCells, bl]
set_option maxRecDepth 100000 in
set_option maxHeartbeats 2000000 in
theorem bString {B b : Nat} {l : List UInt8} {w : World} (h : Bd B b l w) (s : ByteArray) (hl : l.length + s.size ≤ 100000000) :
    Calls Tryz.prog 16 #[.pointer (some ⟨b, 0, none⟩), .string s] w fun e w' => e = .returned (.tuple #[.int .i64 s.size, .nilIface]) ∧ Bd B b (l ++ bl s) w' ∧ KB B b w w' := by
  obtain ⟨i, hi, hz0, hz1, hz2⟩ := info_parts tU8.info
  have HC := Lib.hid (fun W (hW : Bd B b l W) => bCheck hW)
  have hB := h.le
  have HI := Lib.hid hi; have HZ := Lib.hid (And.intro hz0 (And.intro hz1 hz2))
  clear hi hz0 hz1 hz2
  go_enter Tryz.func16, Tryz.ntmps16
  go_wp2_with fail
  refine (HC.out _ h).mono ?_
  rintro e w1 ⟨rfl, hb1, hk1⟩
  obtain ⟨v, h1, h2⟩ := hb1.is
  have HK1 := Lib.hid hk1; have H1 := Lib.hid h1; have H2 := Lib.hid h2
  have hlt := hb1.lt
  have hlw := h.le
  have c0 : w1.cell? ⟨b, 0, none⟩ = some (.pointer (some ⟨b, 0, none⟩)) := by simp [World.cell?, h1]
  have c1 : w1.cell? ⟨b, 1, none⟩ = some v := by simp [World.cell?, h1]
  have hc := cells_len l
  clear hk1 hb1 h1 h2
  go_wp2_with (at_builtin; refine Lib.wpList_append_own_string _ rfl _ _ 45 9 rfl B 5 i Tryz.underlying45 Tryz.underlying9 HI.out HZ.out.1 HZ.out.2.1 HZ.out.2.2 _ _ _ rfl H2.out s rfl ?c3 ?c4 ?c5 ?_)
  case c3 => unfold maxLen; omega
  case c4 => omega
  case c5 => omega
  intro v' w2 hown hgrow _
  have hp := bd_put (l' := l ++ bl s) hB H1.out H2.out hgrow (by rw [cells_app, List.length_append, bl_len, ← cells_str]; exact hown)
  obtain ⟨h3, h4, h5⟩ := hp
  have d1 : w2.cell? ⟨b, 1, none⟩ = some v := by simp [World.cell?, h3]
  have f1 : w2.frozen? ⟨b, 1, none⟩ = false := by simp [World.frozen?, h3]
  obtain ⟨ao, n', cap, rfl⟩ : ∃ ao n' cap, v' = .slice ao n' cap := by
    rcases hown.2 with ⟨hv, _⟩ | ⟨g, cap, cur, hv, _⟩
    · exact ⟨_, _, _, hv⟩
    · exact ⟨_, _, _, hv⟩
  have H4 := Lib.hid h4
  have H5 : Hid (KB B b w _) := HK1.out.trans h5
  clear hown hgrow h3 h4 h5
  go_wp2_with fail
  go_ret2
  exact ⟨rfl, .inr H4.out, H5.out⟩

theorem bAsk {B b : Nat} {l : List UInt8} {w : World} (h : Bd B b l w) (hB : B ≤ w.heap.size) :
    Calls Tryz.prog 18 #[.pointer (some ⟨b, 0, none⟩)] w fun e w' => e = .returned (.string (tx l)) ∧ Kp (fun k => B ≤ k) w w' :=
  (Tryz.Builder_String_any B b l w h.is hB).mono fun e w' ⟨h1, h2⟩ => ⟨h1, Kp.of_below h2⟩
end Go.Proofs.YtacgabagfdlpeaaGreatDoor
