/- Layer 15: all that a table tells is the list. -/
import Derived.Test.YthnlggecjdifnaaFlPl
namespace Go.Proofs.Ythnlggecjdifnaa
set_option linter.unusedVariables false
set_option linter.unusedSimpArgs false
open Go.RowKit flowInt

theorem flowInt.Tb.apart {S : Nat → Prop} {w w' : World} {B0 tb room : Nat} {E : List (Nat × Int)} (h : Tb w B0 tb room E) (k : Kp S w w') (hS : ∀ b, S b → ∃ cs t, Blk w b cs t ∧ t ≠ 63 ∧ t ≠ 43) : Tb w' B0 tb room E := by
  obtain ⟨sb, Sl, n, hm, ok, hp, h1, h2⟩ := h
  refine ⟨sb, Sl, n, hm.kp k (fun hb => ?_) (fun hb => ?_), ok, hp, h1, h2⟩
  · obtain ⟨cs, t, hB, t1, t2⟩ := hS _ hb
    exact blk_ne hB hm.top t2 rfl
  · obtain ⟨cs, t, hB, t1, t2⟩ := hS _ hb
    exact blk_ne hB hm.cel t1 rfl
/-- What the closure of tells finds. -/
structure CI (W : World) (B0 B1 bt ba bl bi : Nat) (v vi : Value) (l : List (Nat × Int)) (i : Nat) : Prop where
  ok : Blk W bt [.bool true] 4
  at_ : Blk W ba [.int .i64 i] 3
  box : Blk W bl [v] 28
  ids : Blk W bi [vi] 48
  row : Rr W B0 v l
  num : W.ownsRow B1 29 1 vi l.length ((l.map (·.1)).map sortUint32.en)
set_option maxRecDepth 100000 in
set_option maxHeartbeats 4000000 in
theorem closW (W : World) (B0 B1 bt ba bl bi : Nat) (v vi : Value) (l : List (Nat × Int)) (i : Nat) (h : CI W B0 B1 bt ba bl bi v vi l i) (id : Nat) (x : Int) (hi : l[i]? = some (id, x)) (hl : l.length ≤ 5000) :
    Calls Try.prog 23 #[.int .u32 id, .int .i64 x, .pointer (some ⟨bt, 0, none⟩), .pointer (some ⟨ba, 0, none⟩), .pointer (some ⟨bl, 0, none⟩), .pointer (some ⟨bi, 0, none⟩)] W fun e w' =>
      e = .returned (.bool true) ∧ Blk w' bt [.bool true] 4 ∧ Blk w' ba [.int .i64 (i + 1 : Nat)] 3 ∧ Kp (fun b => b = bt ∨ b = ba) W w' := by
  have hil := (List.getElem?_eq_some_iff.1 hi).1
  obtain ⟨g, cap, rfl, c0, c1⟩ := h.row.get i _ hi
  obtain ⟨g2, cap2, rfl, _⟩ := own_shape1 h.num (by omega)
  have c2 := own_cell h.num i (u := .int .u32 id) (by rw [List.getElem?_map, List.getElem?_map, hi]; rfl)
  have k0 := h.ok.cell 0 rfl
  have k1 := h.at_.cell 0 rfl
  have k2 := h.box.cell 0 rfl
  have k3 := h.ids.cell 0 rfl
  have z0 := h.ok.fz 0
  have z1 := h.at_.fz 0
  have hne := blk_ne h.ok h.at_ (by decide)
  have hB1 := (h.ok.set 0 (.bool true)).setNe (a := ⟨ba, 0, none⟩) (fun e => hne e) (.int .i64 (i + 1 : Nat))
  have hB2 := (h.at_.setNe (a := ⟨bt, 0, none⟩) (fun e => hne e.symm) (.bool true)).set 0 (.int .i64 (i + 1 : Nat))
  have hK : Kp (fun b => b = bt ∨ b = ba) W ((W.setCell ⟨bt, 0, none⟩ (.bool true)).setCell ⟨ba, 0, none⟩ (.int .i64 (i + 1 : Nat))) := ((Kp.refl _ _).set (p := ⟨bt, 0, none⟩) (.inl (.inl rfl)) _).set (p := ⟨ba, 0, none⟩) (.inl (.inr rfl)) _
  have hB3 := hB1
  have HB1 := Lib.hid hB1; have HB2 := Lib.hid hB2; have HK := Lib.hid hK
  have hii : (i : Int) < (l.length : Int) := by omega
  have hbne : (bt = ba) = False := by simp [hne]
  clear h hB1 hB2 hK hB3 hi hbne
  go_enter Try.func23, Try.ntmps23
  go_wp2
  go_ret
  exact ⟨rfl, HB1.out, HB2.out, HK.out⟩
end Go.Proofs.Ythnlggecjdifnaa
