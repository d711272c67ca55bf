/- strings.Builder at this dump: what a builder holds, and what writing to it and asking it leave. -/
import Derived.Test.YtlaakhfgidjofaaGreatDoorMSnapNobodyF1
import Derived.Test.YtlaakhfgidjofaaGreatDoorMSnapNobodyF2
import Derived.Test.YtlaakhfgidjofaaGreatDoorShelf
import Derived.Lib.Builder
import Derived.Lib.AppendStr
import Derived.Laws.BytesArg
import Derived.Test.YtlaakhfgidjofaaGreatDoorMSnapNobodyF5
import Derived.Deep.QuietTactic
import Derived.Deep.RegionHeld3
namespace Go.Proofs.YtlaakhfgidjofaaGreatDoor
set_option linter.unusedVariables false
set_option linter.unusedSimpArgs false
open Go.RowKit Go.Shelf
theorem tU8 : SlT Tryz.prog 108 5 (.int .u8 0) 1 1 := ⟨Tryz.underlying108, by kernel_rfl, rfl, by decide⟩
structure BdAt (B b : Nat) (p : Value) (l : List UInt8) (w : World) : Prop where
  le : B ≤ b
  is : ∃ v, w.heap[b]? = some (.cells #[p, v] 110 (0, 0)) ∧ w.ownsRow B 5 1 v l.length (Lib.byteCells l)
def Bd (B b : Nat) (l : List UInt8) (w : World) : Prop := BdAt B b (.pointer none) l w ∨ BdAt B b (.pointer (some ⟨b, 0, none⟩)) l w
theorem Bd.get {B b : Nat} {l : List UInt8} {w : World} (h : Bd B b l w) : ∃ p, BdAt B b p l w := by
  rcases h with h | h <;> exact ⟨_, h⟩
theorem BdAt.lt {B b : Nat} {p : Value} {l : List UInt8} {w : World} (h : BdAt B b p l w) : b < w.heap.size := by
  obtain ⟨v, h1, _⟩ := h.is
  exact (Array.getElem?_eq_some_iff.1 h1).1
theorem Bd.lt {B b : Nat} {l : List UInt8} {w : World} (h : Bd B b l w) : b < w.heap.size := by
  obtain ⟨_, h⟩ := h.get; exact h.lt
theorem Bd.le {B b : Nat} {l : List UInt8} {w : World} (h : Bd B b l w) : B ≤ b := by
  obtain ⟨_, h⟩ := h.get; exact h.le
def BS (w : World) (B b : Nat) : Nat → Prop := fun k => k = b ∨ (B ≤ k ∧ ∃ cs fr, w.heap[k]? = some (.cells cs 5 fr))
theorem bd_row {w : World} {B : Nat} {v : Value} {n : Nat} {xs : List Value} (h : w.ownsRow B 5 1 v n xs) {k : Nat} (hk : v.ownBlock = some k) : B ≤ k ∧ ∃ cs fr, w.heap[k]? = some (.cells cs 5 fr) := by
  rcases h.2 with ⟨rfl, _⟩ | ⟨g, cap, cur, rfl, hg, hh, _⟩
  · cases hk
  · injection hk with e; subst e; exact ⟨hg, _, _, hh⟩
theorem bd_ne {w : World} {B b : Nat} {v : Value} {n : Nat} {xs : List Value} {cs : Array Value} {fr : Nat × Nat} (h : w.ownsRow B 5 1 v n xs) (hb : w.heap[b]? = some (.cells cs 110 fr)) : v.ownBlock ≠ some b := by
  intro e
  obtain ⟨_, _, _, h2⟩ := bd_row h e
  rw [hb] at h2; simp at h2
theorem BdAt.kp {S : Nat → Prop} {w w' : World} {B b : Nat} {p : Value} {l : List UInt8} (h : BdAt B b p l w) (k : Kp S w w') (h1 : ¬ S b) (h2 : ∀ j, B ≤ j → (∃ cs fr, w.heap[j]? = some (.cells cs 5 fr)) → ¬ S j) : BdAt B b p l w' := by
  obtain ⟨v, h3, h4⟩ := h.is
  exact ⟨h.le, v, (k.block b h.lt h1).trans h3, own_kp h4 k (fun j hj => h2 j (bd_row h4 hj).1 (bd_row h4 hj).2)⟩
theorem Bd.kp {S : Nat → Prop} {w w' : World} {B b : Nat} {l : List UInt8} (h : Bd B b l w) (k : Kp S w w') (h1 : ¬ S b) (h2 : ∀ j, B ≤ j → (∃ cs fr, w.heap[j]? = some (.cells cs 5 fr)) → ¬ S j) : Bd B b l w' :=
  h.elim (fun x => .inl (x.kp k h1 h2)) (fun x => .inr (x.kp k h1 h2))
theorem Bd.old {w w' : World} {B b : Nat} {l : List UInt8} (h : Bd B b l w) (k : Kp none' w w') : Bd B b l w' := h.kp k id (fun _ _ _ x => x)
theorem Bd.new (w : World) (B : Nat) (hB : B ≤ w.heap.size) : Bd B w.heap.size [] (w.alloc (.cells #[.pointer none, .slice none 0 0] 110)) :=
  .inl ⟨hB, _, heap_new _ _, World.ownsRow_nil _ _ _ _⟩
def KB (B b : Nat) (w w' : World) : Prop := Kp (BS w B b) w w'
theorem KB.refl (B b : Nat) (w : World) : KB B b w w := Kp.refl _ _
theorem KB.trans {B b : Nat} {w0 w w' : World} (h : KB B b w0 w) (k : KB B b w w') : KB B b w0 w' :=
  ⟨k.os.trans h.os, k.tape.trans h.tape, k.output.trans h.output, Nat.le_trans h.size k.size, fun i hi hs => by
    have h1 := h.block i hi hs
    refine (k.block i (Nat.lt_of_lt_of_le hi h.size) (fun e => hs ?_)).trans h1
    rcases e with e | ⟨e, e2⟩
    · exact .inl e
    · exact .inr ⟨e, by rw [← h1]; exact e2⟩⟩
theorem KB.old {B b : Nat} {w w' : World} (h : Kp none' w w') : KB B b w w' := h.mono (fun _ _ x => x.elim)
theorem KB.none {B b : Nat} {w0 w w' : World} (h : Kp none' w0 w) (k : KB B b w w') (hB : w0.heap.size ≤ B) (hb : B ≤ b) : Kp none' w0 w' :=
  h.then k (fun i hi e => by rcases e with e | ⟨e, _⟩ <;> omega)
theorem Blk.kb {B b : Nat} {w w' : World} {k : Nat} {cs : List Value} {t : TypeId} (h : Blk w k cs t) (hk : KB B b w w') (h1 : k ≠ b) (h2 : t ≠ 5) : Blk w' k cs t :=
  h.kp hk (fun e => by
    rcases e with e | ⟨_, c, fr, e⟩
    · exact h1 e
    · rw [h.is] at e; injection e with e; injection e with _ e _; exact h2 e)
theorem Sl.kb {B b : Nat} {w w' : World} {v : Value} {n sz : Nat} {cs : List Value} (h : Sl w v n sz cs) (hk : KB B b w w') (hv : ∀ k, v.ownBlock = some k → k < B) (hb : B ≤ b) : Sl w' v n sz cs :=
  h.kp hk (fun k _ hk e => by
    have := hv k hk
    rcases e with e | ⟨e, _⟩ <;> omega)
theorem Bd.is {B b : Nat} {l : List UInt8} {w : World} (h : Bd B b l w) : Lib.IsBuilder 110 5 B b (Lib.byteCells l) w := by
  have hl : (Lib.byteCells l).length = l.length := by simp [Lib.byteCells]
  rcases h with ⟨h, v, h1, h2⟩ | ⟨h, v, h1, h2⟩
  · exact .inl ⟨h, v, h1, by rw [hl]; exact h2, bd_ne h2 h1⟩
  · exact .inr ⟨h, v, h1, by rw [hl]; exact h2, bd_ne h2 h1⟩
theorem kp_at (w : World) (b o : Nat) (u : Value) : Kp (fun k => k = b) w (w.setCell ⟨b, o, none⟩ u) := (Kp.refl (fun k => k = b) w).set (p := ⟨b, o, none⟩) (.inl rfl) u
set_option maxRecDepth 100000 in
set_option maxHeartbeats 1000000 in
theorem bCheckUsed (b : Nat) (w : World) (h0 : w.cell? ⟨b, 0, none⟩ = some (.pointer (some ⟨b, 0, none⟩))) :
    Calls Tryz.prog 94 #[.pointer (some ⟨b, 0, none⟩)] w fun e w' => e = .returned (.tuple #[]) ∧ w = w' := by
  obtain ⟨j, hj, hjs⟩ := Option.map_eq_some_iff.1 (show (Tryz.prog.info? 110).map (·.size) = some 2 by kernel_rfl)
  go_enter Tryz.func94, Tryz.ntmps94
  go_wp2
  rw [Lib.run_neq_ptr_same w _ Tryz.underlying107 hj]
  go_wp2
  go_end0
  exact ⟨rfl, rfl⟩
set_option maxRecDepth 100000 in
set_option maxHeartbeats 1000000 in
theorem bCheckFresh (b : Nat) (w : World) (h0 : w.cell? ⟨b, 0, none⟩ = some (.pointer none)) (hsh : w.shape? b = some (110, 2)) (hfz : w.frozen? ⟨b, 0, none⟩ = false) :
    Calls Tryz.prog 94 #[.pointer (some ⟨b, 0, none⟩)] w fun e w' => e = .returned (.tuple #[]) ∧ w.setCell ⟨b, 0, none⟩ (.pointer (some ⟨b, 0, none⟩)) = w' := by
  obtain ⟨j, hj, hjs⟩ := Option.map_eq_some_iff.1 (show (Tryz.prog.info? 110).map (·.size) = some 2 by kernel_rfl)
  go_enter Tryz.func94, Tryz.ntmps94
  go_wp2
  rw [Lib.run_to_unsafe w ⟨b, 0, none⟩ Tryz.underlying107 Tryz.underlying266 hj (by rw [hjs]; decide) hsh (Nat.zero_lt_succ 1)]
  simp only [Result.andThen]
  rw [Oper.upon_value]
  go_wp2
  rw [run_callFunc_extern Tryz.func134 (by kernel_rfl) (by kernel_rfl) (by kernel_rfl) (e := Extern.AbiNoEscape.same) (by kernel_rfl)]
  rw [Lib.run_noEscape]
  simp only [Result.andThen]
  rw [Oper.upon_value]
  go_wp2
  rw [Lib.run_from_unsafe w ⟨b, 0, none⟩ Tryz.underlying266 Tryz.underlying107 hj hsh (by kernel_rfl)]
  simp only [Result.andThen]
  rw [Oper.upon_value]
  go_wp2
  go_end0
  exact ⟨rfl, rfl⟩
theorem bCheck {B b : Nat} {l : List UInt8} {w : World} (h : Bd B b l w) :
    Calls Tryz.prog 94 #[.pointer (some ⟨b, 0, none⟩)] w fun e w' => e = .returned (.tuple #[]) ∧ BdAt B b (.pointer (some ⟨b, 0, none⟩)) l w' ∧ KB B b w w' := by
  rcases h with h | h
  · obtain ⟨v, h1, h2⟩ := h.is
    refine (bCheckFresh b w (by simp [World.cell?, h1]) (by simp [World.shape?, h1]) (by simp [World.frozen?, h1])).mono ?_
    rintro e w' ⟨rfl, rfl⟩
    refine ⟨rfl, ⟨h.le, v, by simp [World.setCell, Array.getElem?_modify, h1], ?_⟩, (Kp.refl _ _).set (.inl (.inl rfl)) _⟩
    exact own_kp (S := fun k => k = b) h2 (kp_at _ _ _ _) (fun j hj e => bd_ne h2 h1 (by rw [hj, e]))
  · obtain ⟨v, h1, h2⟩ := h.is
    refine (bCheckUsed b w (by simp [World.cell?, h1])).mono ?_
    rintro e w' ⟨rfl, rfl⟩
    exact ⟨rfl, h, Kp.refl _ _⟩
theorem bd_put {B b : Nat} {p v v' : Value} {l l' : List UInt8} {w1 w2 : World} (hB : B ≤ b) (h1 : w1.heap[b]? = some (.cells #[p, v] 110 (0, 0))) (ho1 : w1.ownsRow B 5 1 v l.length (Lib.byteCells l))
    (hg : w1.grownBy w2 v.ownBlock) (ho : w2.ownsRow B 5 1 v' l'.length (Lib.byteCells l')) :
    w2.heap[b]? = some (.cells #[p, v] 110 (0, 0)) ∧ BdAt B b p l' (w2.setCell ⟨b, 1, none⟩ v') ∧ KB B b w1 (w2.setCell ⟨b, 1, none⟩ v') := by
  have hlt : b < w1.heap.size := (Array.getElem?_eq_some_iff.1 h1).1
  have hw : w2.heap[b]? = some (.cells #[p, v] 110 (0, 0)) := (hg.block b hlt (fun e => bd_ne ho1 h1 e.symm)).trans h1
  refine ⟨hw, ⟨hB, v', by simp [World.setCell, Array.getElem?_modify, hw], ?_⟩, ?_⟩
  · exact own_kp (S := fun k => k = b) ho (kp_at _ _ _ _) (fun j hj e => bd_ne ho hw (by rw [hj, e]))
  · exact ((Kp.refl _ _).grown hg (fun k hk => .inl (.inr (bd_row ho1 hk)))).set (.inl (.inl rfl)) _
theorem cells_snoc (l : List UInt8) (c : UInt8) : Lib.byteCells (l ++ [c]) = Lib.byteCells l ++ [.int .u8 c.toNat] := by simp [Lib.byteCells]
theorem cells_app (l k : List UInt8) : Lib.byteCells (l ++ k) = Lib.byteCells l ++ Lib.byteCells k := by simp [Lib.byteCells]
theorem cells_len (l : List UInt8) : (Lib.byteCells l).length = l.length := by simp [Lib.byteCells]
theorem cells_str (s : ByteArray) : Lib.strCells s = Lib.byteCells (bl s) := by
  simp [Lib.strCells, Lib.byteCells, bl]
set_option maxRecDepth 100000 in
set_option maxHeartbeats 2000000 in
theorem bString {B b : Nat} {l : List UInt8} {w : World} (h : Bd B b l w) (s : ByteArray) (hl : l.length + s.size ≤ 100000000) :
    Calls Tryz.prog 44 #[.pointer (some ⟨b, 0, none⟩), .string s] w fun e w' => e = .returned (.tuple #[.int .i64 s.size, .nilIface]) ∧ Bd B b (l ++ bl s) w' ∧ KB B b w w' := by
  obtain ⟨i, hi, hz0, hz1, hz2⟩ := info_parts tU8.info
  have HC := Lib.hid (fun W (hW : Bd B b l W) => bCheck hW)
  have hB := h.le
  have HI := Lib.hid hi; have HZ := Lib.hid (And.intro hz0 (And.intro hz1 hz2))
  clear hi hz0 hz1 hz2
  go_enter Tryz.func44, Tryz.ntmps44
  go_wp2_with fail
  refine (HC.out _ h).mono ?_
  rintro e w1 ⟨rfl, hb1, hk1⟩
  obtain ⟨v, h1, h2⟩ := hb1.is
  have HK1 := Lib.hid hk1; have H1 := Lib.hid h1; have H2 := Lib.hid h2
  have hlt := hb1.lt
  have hlw := h.le
  have c0 : w1.cell? ⟨b, 0, none⟩ = some (.pointer (some ⟨b, 0, none⟩)) := by simp [World.cell?, h1]
  have c1 : w1.cell? ⟨b, 1, none⟩ = some v := by simp [World.cell?, h1]
  have hc := cells_len l
  clear hk1 hb1 h1 h2
  go_wp2_with (at_builtin; refine Lib.wpList_append_own_string _ rfl _ _ 108 9 rfl B 5 i Tryz.underlying108 Tryz.underlying9 HI.out HZ.out.1 HZ.out.2.1 HZ.out.2.2 _ _ _ rfl H2.out s rfl ?c3 ?c4 ?c5 ?_)
  case c3 => unfold maxLen; omega
  case c4 => omega
  case c5 => omega
  intro v' w2 hown hgrow _
  have hp := bd_put (l' := l ++ bl s) hB H1.out H2.out hgrow (by rw [cells_app, List.length_append, bl_len, ← cells_str]; exact hown)
  obtain ⟨h3, h4, h5⟩ := hp
  have d1 : w2.cell? ⟨b, 1, none⟩ = some v := by simp [World.cell?, h3]
  have f1 : w2.frozen? ⟨b, 1, none⟩ = false := by simp [World.frozen?, h3]
  obtain ⟨ao, n', cap, rfl⟩ : ∃ ao n' cap, v' = .slice ao n' cap := by
    rcases hown.2 with ⟨hv, _⟩ | ⟨g, cap, cur, hv, _⟩
    · exact ⟨_, _, _, hv⟩
    · exact ⟨_, _, _, hv⟩
  have H4 := Lib.hid h4
  have H5 : Hid (KB B b w _) := HK1.out.trans h5
  clear hown hgrow h3 h4 h5
  go_wp2_with fail
  go_ret2
  exact ⟨rfl, .inr H4.out, H5.out⟩
theorem bAsk {B b : Nat} {l : List UInt8} {w : World} (h : Bd B b l w) (hB : B ≤ w.heap.size) :
    Calls Tryz.prog 51 #[.pointer (some ⟨b, 0, none⟩)] w fun e w' => e = .returned (.string (tx l)) ∧ Kp (fun k => B ≤ k) w w' :=
  (Tryz.Builder_String_any B b l w h.is hB).mono fun e w' ⟨h1, h2⟩ => ⟨h1, Kp.of_below h2⟩
end Go.Proofs.YtlaakhfgidjofaaGreatDoor

namespace Go.Proofs.YtlaakhfgidjofaaGreatDoor
set_option linter.unusedVariables false
set_option linter.unusedSimpArgs false
open Go Go.RowKit Go.Shelf
theorem gUnitT (n : Nat) (hn : n ≤ 18446744073709551615) : ∃ u : ByteArray, bl u = putU n ∧ u.size ≤ 30 ∧ ∀ W, Calls Tryz.prog 47 #[.int .u64 n] W fun e w' => e = .returned (.string u) ∧ Kp none' W w' :=
  ⟨tx (putU n), bl_tx _, by rw [tx_size]; exact putU_len n hn, fun W => (dPutUnit n hn W).mono fun e w' h => by
    obtain ⟨s, rfl, hs, k⟩ := h
    exact ⟨by rw [← hs, tx_bl], k⟩⟩
set_option maxHeartbeats 2000000 in
theorem cNames (w : World) : Calls Tryz.prog 49 #[] w fun e w' => e = .returned (.slice (some ⟨w.heap.size, 0, none⟩) 3 3) ∧ Blk w' w.heap.size [.string ⟨#[115, 116, 102, 113]⟩, .string ⟨#[101, 100, 102]⟩, .string ⟨#[115, 114, 115]⟩] 9 ∧ Kp none' w w' := by
  go_enter Tryz.func49, Tryz.ntmps49
  go_wp2
  go_ret
  exact ⟨rfl, Blk.new w [.string ⟨#[115, 116, 102, 113]⟩, .string ⟨#[101, 100, 102]⟩, .string ⟨#[115, 114, 115]⟩] 9, (Kp.refl _ _).alloc _⟩
set_option maxHeartbeats 2000000 in
theorem cBacks (w : World) : Calls Tryz.prog 50 #[] w fun e w' => e = .returned (.slice (some ⟨w.heap.size, 0, none⟩) 3 3) ∧ Blk w' w.heap.size [.string ⟨#[104, 101, 97, 112]⟩, .string ⟨#[99, 97, 108, 101, 110, 100, 97, 114]⟩, .string ⟨#[113, 117, 101, 117, 101, 115]⟩] 9 ∧ Kp none' w w' := by
  go_enter Tryz.func50, Tryz.ntmps50
  go_wp2
  go_ret
  exact ⟨rfl, Blk.new w [.string ⟨#[104, 101, 97, 112]⟩, .string ⟨#[99, 97, 108, 101, 110, 100, 97, 114]⟩, .string ⟨#[113, 117, 101, 117, 101, 115]⟩] 9, (Kp.refl _ _).alloc _⟩
theorem sb_ne {B b sb : Nat} {L : List UInt8} {w : World} {cs : List Value} {t : TypeId} (hb : Bd B b L w) (hs : Blk w sb cs t) (ht : t ≠ 110) : sb ≠ b := by
  obtain ⟨p, hp⟩ := hb.get
  obtain ⟨v, h1, _⟩ := hp.is
  intro e
  subst e
  have := hs.is.symm.trans h1
  simp at this
  exact ht this.2
set_option maxRecDepth 100000 in
set_option maxHeartbeats 2000000 in
theorem cSay (nm : ByteArray) (hnm : nm.size ≤ 20) (xs : List ByteArray) (hxl : xs.length ≤ 10) (hsz : (joinL (xs.map bl)).length ≤ 1000) (v : Value) {b : Nat} {L : List UInt8} {w : World} (hb : Bd b b L w) (hL : L.length ≤ 100000)
    (h : Sl w v xs.length 1 (strs xs)) (hcap : ∀ ao n c, v = .slice ao n c → n ≤ c) :
    Calls Tryz.prog 43 #[.string nm, v, .pointer (some ⟨b, 0, none⟩)] w fun e w' => e = .returned (.tuple #[]) ∧ Bd b b (L ++ (bl nm ++ 32 :: (joinL (xs.map bl) ++ [10]))) w' ∧ KB b b w w' := by
  have HJ := Lib.hid (dJoin xs v w h hcap (by omega) (by omega))
  obtain ⟨j, hj⟩ : ∃ j, tx (joinL (xs.map bl)) = j := ⟨_, rfl⟩
  have hj2 : bl j = joinL (xs.map bl) := by rw [← hj, bl_tx]
  have zj : j.size ≤ 1000 := by rw [← hj, tx_size]; exact hsz
  rw [hj] at HJ
  obtain ⟨x1, q1, e1, z1⟩ := cat_ex nm ⟨#[32]⟩ 20 1 hnm (by decide) (by omega)
  obtain ⟨x2, q2, e2, z2⟩ := cat_ex x1 j 21 1000 z1 zj (by omega)
  obtain ⟨x3, q3, e3, z3⟩ := cat_ex x2 ⟨#[10]⟩ 1021 1 z2 (by decide) (by omega)
  have HX : Hid (bl x3 = bl nm ++ 32 :: (joinL (xs.map bl) ++ [10])) := by
    show _ = _
    rw [e3, e2, e1, hj2]; show (bl nm ++ [32] ++ joinL (xs.map bl)) ++ [10] = _; simp
  have HB := Lib.hid hb
  obtain ⟨ao, cap, rfl⟩ : ∃ ao cap, v = .slice ao xs.length cap := by obtain ⟨ao, cap, rfl, _⟩ := h.is; exact ⟨_, _, rfl⟩
  have HW := Lib.hid (fun W (hW : Bd b b L W) => bString hW x3 (by omega))
  clear h hcap hb e1 e2 e3 hj hj2 hsz
  go_enter Tryz.func43, Tryz.ntmps43
  go_wp2_with fail
  refine (HJ.out).mono ?_
  rintro e w1 ⟨rfl, k1⟩
  have HK1 := Lib.hid k1
  have HB1 := Lib.hid (HB.out.old k1)
  clear k1
  go_wp2_with fail
  refine (HW.out _ HB1.out).mono ?_
  rintro e w2 ⟨rfl, hb2, k2⟩
  have HB2 := Lib.hid hb2; have HK2 := Lib.hid ((KB.old (B := b) (b := b) HK1.out).trans k2)
  clear hb2 k2
  go_wp2_with fail
  go_end0
  exact ⟨rfl, by rw [← HX.out]; exact HB2.out, HK2.out⟩
set_option maxRecDepth 100000 in
set_option maxHeartbeats 4000000 in
theorem cAmount (nm : ByteArray) (hnm : nm.size ≤ 20) (n : Nat) (hn : n ≤ 18446744073709551615) {b sb : Nat} {L : List UInt8} {w : World} (hb : Bd b b L w) (hL : L.length ≤ 100000)
    (hs : Blk w sb [.func (.func 43) #[] #[.pointer (some ⟨b, 0, none⟩)]] 117) :
    Calls Tryz.prog 48 #[.string nm, .int .u64 n, .pointer (some ⟨sb, 0, none⟩)] w fun e w' => e = .returned (.tuple #[]) ∧ Bd b b (L ++ (bl nm ++ 32 :: (putU n ++ [10]))) w' ∧ KB b b w w' := by
  obtain ⟨u, hu, zu, HU0⟩ := gUnitT n hn
  have HU := Lib.hid HU0
  have HSAY : Hid (∀ (W : World) (g : Nat), Kp none' w W → W.heap[g]? = some (.cells #[.string u] 9 (0, 0)) → Calls Tryz.prog 43 #[.string nm, .slice (some ⟨g, 0, none⟩) 1 1, .pointer (some ⟨b, 0, none⟩)] W fun e w' => e = .returned (.tuple #[]) ∧ Bd b b (L ++ (bl nm ++ 32 :: (putU n ++ [10]))) w' ∧ KB b b W w') := by
    intro W g hk hg
    have hjl : joinL ([u].map bl) = putU n := hu
    have := cSay nm hnm [u] (by simp) (by rw [hjl]; have := putU_len n hn; omega) (.slice (some ⟨g, 0, none⟩) 1 1) (hb.old hk) hL
      ⟨rfl, by simp, _, _, rfl, fun i x hx => ⟨g, 0, rfl, by
        cases i with
        | zero => simp [strs] at hx; subst hx; simp [World.cell?, hg]
        | succ i => simp [strs] at hx⟩⟩ (fun ao m c e => by cases e; exact Nat.le_refl _)
    rwa [hjl] at this
  have c0 := hs.cell 0 rfl
  have HNE := Lib.hid (sb_ne hb hs (by decide))
  have HS5 := Lib.hid hs
  clear hb hs HU0 hu
  go_enter Tryz.func48, Tryz.ntmps48
  go_region_held3 (fun w' => w'.cell? ⟨sb, 0, none⟩ = some (.func (.func 43) #[] #[.pointer (some ⟨b, 0, none⟩)])) (go_keep)
    (first
      | (go_at_call 47; refine (HU.out _).mono ?_; rintro e w1 ⟨rfl, k1⟩; have d0 := k1.cell (a := ⟨sb, 0, none⟩) c0 (fun x => x); have K1 := Lib.hid ((Kp.refl none' w).drew.trans k1); clear k1)
      | (go_at_call 43; refine (HSAY.out _ _ (K1.out.alloc _) (heap_newC _ _ (by simp))).mono ?_; rintro e w3 ⟨rfl, hb3, k3⟩; have HB3 := Lib.hid hb3; have HK3 := Lib.hid ((KB.old (B := b) (b := b) (K1.out.alloc (.cells #[.string u] 9))).trans k3); have g0 := ((HS5.out.kp (K1.out.alloc (.cells #[.string u] 9)) (fun x => x)).kb k3 HNE.out (by decide)).cell 0 rfl; clear hb3 k3))
  go_end0
  exact ⟨rfl, HB3.out, HK3.out⟩
set_option maxRecDepth 100000 in
set_option maxHeartbeats 4000000 in
theorem cCount (nm : ByteArray) (hnm : nm.size ≤ 20) (n : Nat) (hn : n ≤ 9223372036854775807) {b sb : Nat} {L : List UInt8} {w : World} (hb : Bd b b L w) (hL : L.length ≤ 100000)
    (hs : Blk w sb [.func (.func 43) #[] #[.pointer (some ⟨b, 0, none⟩)]] 117) :
    Calls Tryz.prog 46 #[.string nm, .int .i64 n, .pointer (some ⟨sb, 0, none⟩)] w fun e w' => e = .returned (.tuple #[]) ∧ Bd b b (L ++ (bl nm ++ 32 :: (putU n ++ [10]))) w' ∧ KB b b w w' := by
  obtain ⟨u, hu, zu, HU0⟩ := gUnitT n (by omega)
  have HU := Lib.hid HU0
  have HSAY : Hid (∀ (W : World) (g : Nat), Kp none' w W → W.heap[g]? = some (.cells #[.string u] 9 (0, 0)) → Calls Tryz.prog 43 #[.string nm, .slice (some ⟨g, 0, none⟩) 1 1, .pointer (some ⟨b, 0, none⟩)] W fun e w' => e = .returned (.tuple #[]) ∧ Bd b b (L ++ (bl nm ++ 32 :: (putU n ++ [10]))) w' ∧ KB b b W w') := by
    intro W g hk hg
    have hjl : joinL ([u].map bl) = putU n := hu
    have := cSay nm hnm [u] (by simp) (by rw [hjl]; have := putU_len n (by omega); omega) (.slice (some ⟨g, 0, none⟩) 1 1) (hb.old hk) hL
      ⟨rfl, by simp, _, _, rfl, fun i x hx => ⟨g, 0, rfl, by
        cases i with
        | zero => simp [strs] at hx; subst hx; simp [World.cell?, hg]
        | succ i => simp [strs] at hx⟩⟩ (fun ao m c e => by cases e; exact Nat.le_refl _)
    rwa [hjl] at this
  have c0 := hs.cell 0 rfl
  have hwr : IntKind.u64.wrap (n : Int) = n := by rw [IntKind.wrap_u64]; omega
  have HNE := Lib.hid (sb_ne hb hs (by decide))
  have HS5 := Lib.hid hs
  clear hb hs HU0 hu
  go_enter Tryz.func46, Tryz.ntmps46
  go_region_held3 (fun w' => w'.cell? ⟨sb, 0, none⟩ = some (.func (.func 43) #[] #[.pointer (some ⟨b, 0, none⟩)])) (go_keep)
    (first
      | (go_at_call 47; refine (HU.out _).mono ?_; rintro e w1 ⟨rfl, k1⟩; have d0 := k1.cell (a := ⟨sb, 0, none⟩) c0 (fun x => x); have K1 := Lib.hid ((Kp.refl none' w).drew.trans k1); clear k1)
      | (go_at_call 43; refine (HSAY.out _ _ (K1.out.alloc _) (heap_newC _ _ (by simp))).mono ?_; rintro e w3 ⟨rfl, hb3, k3⟩; have HB3 := Lib.hid hb3; have HK3 := Lib.hid ((KB.old (B := b) (b := b) (K1.out.alloc (.cells #[.string u] 9))).trans k3); have g0 := ((HS5.out.kp (K1.out.alloc (.cells #[.string u] 9)) (fun x => x)).kb k3 HNE.out (by decide)).cell 0 rfl; clear hb3 k3))
  go_end0
  exact ⟨rfl, HB3.out, HK3.out⟩
end Go.Proofs.YtlaakhfgidjofaaGreatDoor
