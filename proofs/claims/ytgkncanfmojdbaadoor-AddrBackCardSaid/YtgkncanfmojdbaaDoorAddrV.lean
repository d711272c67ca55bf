/- Walks of layer 31: the document's parts of a text. -/
import Derived.Test.YtgkncanfmojdbaaDoorDigY
import Derived.Test.YtgkncanfmojdbaaDoorJoinP
import Derived.Test.YtgkncanfmojdbaaDoorStrs
import Derived.Test.YtgkncanfmojdbaaDoorAddrR
namespace Go.Proofs.YtgkncanfmojdbaaDoor
set_option linter.unusedVariables false
set_option linter.unusedSimpArgs false
open Go.RowKit Go.Shelf

/-- Parts, as texts. -/
def wtx (l : List (List UInt8)) : List Value := strs (l.map tx)
theorem wtx_len (l : List (List UInt8)) : (wtx l).length = l.length := by simp [wtx, strs]
theorem wtx_snoc (l : List (List UInt8)) (x : ByteArray) : wtx (l ++ [bl x]) = wtx l ++ [.string x] := by simp [wtx, strs, tx_bl]
theorem wtx_get (l : List (List UInt8)) (k : Nat) (h : k < l.length) : (wtx l)[k]? = some (.string (tx l[k])) := by simp [wtx, strs, h]
theorem bl_one (s : ByteArray) (k : Nat) (h : k < s.size) : bl (s.extract k (k + 1)) = [s[k]] := by
  rw [bl_cut, show k + 1 - k = 1 by omega]
  rw [List.drop_eq_getElem_cons (by rw [bl_len]; exact h), List.take_succ_cons, List.take_zero, bl_get s k h]
theorem take_bl (s : ByteArray) (k : Nat) (h : k < s.size) : (bl s).take (k + 1) = (bl s).take k ++ [s[k]] := by
  rw [List.take_succ_eq_append_getElem (by rw [bl_len]; exact h), bl_get s k h]
/-- What the loop keeps: the parts that ended lie in the row v, the one that has begun is x. -/
structure Pts (c : UInt8) (l : List UInt8) (B : Nat) (w wr : World) (v : Value) (x : ByteArray) (o : List (List UInt8)) : Prop where
  st : pst c l = (o, bl x)
  own : wr.ownsRow B 9 1 v o.length (wtx o)
  kp : Kp none' w wr
theorem pst_len (c : UInt8) (l : List UInt8) : (pst c l).1.length + (pst c l).2.length ≤ l.length := by
  refine snocInd (P := fun l => (pst c l).1.length + (pst c l).2.length ≤ l.length) (by simp [pst]) (fun l d ih => ?_) l
  rw [pst_snoc, List.length_append]
  unfold pstep
  split
  · simp only [List.length_append, List.length_cons, List.length_nil]; omega
  · simp only [List.length_append, List.length_cons, List.length_nil]; omega
theorem Pts.len {c : UInt8} {l : List UInt8} {B : Nat} {w wr : World} {v : Value} {x : ByteArray} {o : List (List UInt8)} (h : Pts c l B w wr v x o) : o.length + x.size ≤ l.length := by
  have := pst_len c l
  rw [h.st, bl_len] at this; exact this
theorem Pts.more {c : UInt8} {l : List UInt8} {B : Nat} {w wr : World} {v : Value} {x y : ByteArray} {o : List (List UInt8)} (h : Pts c l B w wr v x o) {d : UInt8} (hd : (d == c) = false) (hy : bl y = bl x ++ [d]) : Pts c (l ++ [d]) B w wr v y o :=
  ⟨by rw [pst_snoc, h.st]; unfold pstep; rw [if_neg (by simp [hd]), hy], h.own, h.kp⟩
theorem Pts.sign {c : UInt8} {l : List UInt8} {B : Nat} {w wr w1 : World} {v v1 : Value} {x : ByteArray} {o : List (List UInt8)} (h : Pts c l B w wr v x o) {d : UInt8} (hd : (d == c) = true) (ho : w1.ownsRow B 9 1 v1 (o.length + 1) (wtx o ++ [.string x])) (hk : Kp none' w w1) :
    Pts c (l ++ [d]) B w w1 v1 ⟨#[]⟩ (o ++ [bl x]) :=
  ⟨by rw [pst_snoc, h.st]; unfold pstep; rw [if_pos hd]; rfl, by rw [wtx_snoc, List.length_append]; exact ho, hk⟩
theorem Pts.done {c : UInt8} {l : List UInt8} {B : Nat} {w wr : World} {v : Value} {x : ByteArray} {o : List (List UInt8)} (h : Pts c l B w wr v x o) : parts c l = o ++ [bl x] := by
  unfold parts; rw [h.st]

set_option maxHeartbeats 2000000 in
theorem rParts (s : ByteArray) (c : UInt8) (w : World) (hs : s.size ≤ 1000000) : Calls Tryd.prog 26 #[.string s, .int .u8 c.toNat] w fun e w' => ∃ v, e = .returned v ∧ w'.ownsRow w.heap.size 9 1 v (parts c (bl s)).length (wtx (parts c (bl s))) ∧ Kp none' w w' := by
  go_enter Tryd.func26, Tryd.ntmps26
  go_wp2
  go_loopw [5, 6, 7] (fun v x0 i wr => ∃ (k : Nat) (x : ByteArray) (o : List (List UInt8)), k ≤ s.size ∧ i = .int .i64 k ∧ x0 = .string x ∧ Hid (Pts c ((bl s).take k) w.heap.size w wr v x o)) (fun _ _ i _ => s.size - (intOf i).toNat)
  case atStart => exact ⟨0, _, [], Nat.zero_le _, rfl, rfl, rfl, World.ownsRow_nil _ _ _ _, Kp.refl _ _⟩
  case round =>
    obtain ⟨k, x, o, hk, rfl, rfl, hw⟩ := hrel
    obtain ⟨ao, cap, rfl⟩ := own_shape hw.out.own
    have hln := hw.out.len
    have hsz := hw.out.kp.size
    by_cases hlt : k < s.size
    · have hl2 : o.length + x.size ≤ k := by rw [List.length_take, bl_len] at hln; omega
      clear hln
      by_cases hb : (s[k] == c) = true
      · have h1 : ((s[k].toNat : Int) == (c.toNat : Int)) = true := by rw [beq_iff_eq] at hb ⊢; rw [hb]
        have HB := Lib.hid hb; have HTB := Lib.hid (take_bl s k hlt)
        clear hb
        go_wp2_with (at_builtin; refine wp_app1 tStr (.tmp 19) (.tmp 21) rfl rfl w.heap.size (hw.out.own.alloc _) [.string x] rfl rfl rfl (heap_new _ _) rfl (by omega) (by omega) (by simp; omega) ?_)
        intro g1 cap1 w1 hown1 hgrow
        have HO := Lib.hid hown1
        have HK : Hid (Kp none' w w1) := (hw.out.kp.alloc _).grown hgrow (fun b e => .inr (own_block hw.out.own e).1)
        clear hown1 hgrow
        go_wp2
        go_roundw
        case rel => exact ⟨k + 1, _, o ++ [bl x], by omega, by go_num, rfl, by rw [HTB.out]; exact hw.out.sign HB.out HO.out HK.out⟩
        case measure => simp [intOf]; omega
      · have hb' : (s[k] == c) = false := by simpa using hb
        have h1 : ((s[k].toNat : Int) == (c.toNat : Int)) = false := by
          rw [beq_eq_false_iff_ne] at hb' ⊢
          intro e; exact hb' (UInt8.toNat.inj (by omega))
        have HTB := Lib.hid (take_bl s k hlt)
        have hone := bl_one s k hlt
        have hos : (s.extract k (k + 1)).size = 1 := by rw [← bl_len, hone]; rfl
        have hct := fun W => cat_run (P := Tryd.prog) x (s.extract k (k + 1)) (by rw [hos]; omega) W
        have HONE := Lib.hid hone; have HB := Lib.hid hb'
        clear hone hos hb hb'
        go_wp2
        go_roundw
        case rel => exact ⟨k + 1, _, o, by omega, by go_num, rfl, by rw [HTB.out]; exact hw.out.more HB.out (by rw [bl_app, HONE.out])⟩
        case measure => simp [intOf]; omega
    · have hall : (bl s).take k = bl s := List.take_of_length_le (by rw [bl_len]; omega)
      rw [hall] at hw hln
      rw [bl_len] at hln
      clear hall
      have HD := Lib.hid (hw.out.done)
      go_wp2_with (at_builtin; refine wp_app1 tStr (.tmp 30) (.tmp 32) rfl rfl w.heap.size (hw.out.own.alloc _) [.string x] rfl rfl rfl (heap_new _ _) rfl (by omega) (by omega) (by simp; omega) ?_)
      intro g1 cap1 w1 hown1 hgrow
      have HO := Lib.hid hown1
      have HK : Hid (Kp none' w w1) := (hw.out.kp.alloc _).grown hgrow (fun b e => .inr (own_block hw.out.own e).1)
      clear hown1 hgrow
      go_wp2
      go_ret
      exact ⟨_, rfl, by rw [HD.out, wtx_snoc, List.length_append]; exact HO.out, HK.out⟩
end Go.Proofs.YtgkncanfmojdbaaDoor
