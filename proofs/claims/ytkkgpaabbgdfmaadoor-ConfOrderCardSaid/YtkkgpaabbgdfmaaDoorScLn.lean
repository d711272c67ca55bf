/- Walk of layer 24: what stands between line feeds (the document's). -/
import Derived.Test.YtkkgpaabbgdfmaaDoorDigS
import Derived.Test.YtkkgpaabbgdfmaaDoorJoinP
import Derived.Test.YtkkgpaabbgdfmaaDoorOwn
namespace Go.Proofs.YtkkgpaabbgdfmaaDoor
set_option linter.unusedVariables false
set_option linter.unusedSimpArgs false
open Go.RowKit Go.Shelf

/-- What Lines has after some signs. -/
structure Lns (l : List UInt8) (B : Nat) (w wr : World) (v : Value) (x : ByteArray) (o : List (List UInt8)) : Prop where
  st : pst 10 l = (o, bl x)
  own : wr.ownsRow B 9 1 v o.length (wtx o)
  kp : Kp none' w wr
theorem pst_len (c : UInt8) (l : List UInt8) : (pst c l).1.length + (pst c l).2.length ≤ l.length := by
  refine snocInd (P := fun l => (pst c l).1.length + (pst c l).2.length ≤ l.length) (by simp [pst]) (fun l d ih => ?_) l
  rw [pst_snoc]
  unfold pstep
  split <;> simp at * <;> omega
theorem Lns.len {l : List UInt8} {B : Nat} {w wr : World} {v : Value} {x : ByteArray} {o : List (List UInt8)} (h : Lns l B w wr v x o) : o.length + x.size ≤ l.length := by
  have := pst_len 10 l
  rw [h.st, bl_len] at this; exact this
theorem Lns.sign {l : List UInt8} {B : Nat} {w wr : World} {v : Value} {x y : ByteArray} {o : List (List UInt8)} (h : Lns l B w wr v x o) {c : UInt8} (hc : (c == 10) = false) (hy : bl y = bl x ++ [c]) : Lns (l ++ [c]) B w wr v y o :=
  ⟨by rw [pst_snoc, h.st]; unfold pstep; rw [hc, hy]; rfl, h.own, h.kp⟩
theorem Lns.feed {l : List UInt8} {B : Nat} {w wr w1 : World} {v v1 : Value} {x : ByteArray} {o : List (List UInt8)} (h : Lns l B w wr v x o) {c : UInt8} (hc : (c == 10) = true) (ho : w1.ownsRow B 9 1 v1 (o.length + 1) (wtx o ++ [.string x])) (hk : Kp none' w w1) :
    Lns (l ++ [c]) B w w1 v1 ⟨#[]⟩ (o ++ [bl x]) :=
  ⟨by rw [pst_snoc, h.st]; unfold pstep; rw [hc]; rfl, by rw [wtx_snoc, List.length_append]; exact ho, hk⟩
theorem Lns.done {l : List UInt8} {B : Nat} {w wr : World} {v : Value} {x : ByteArray} {o : List (List UInt8)} (h : Lns l B w wr v x o) : parts 10 l = o ++ [bl x] := by
  unfold parts; rw [h.st]

set_option maxHeartbeats 2000000 in
theorem rLines (s : ByteArray) (w : World) (hs : s.size ≤ 1000000) : Calls Tryd.prog 14 #[.string s] w fun e w' => ∃ v, e = .returned v ∧ w'.ownsRow w.heap.size 9 1 v (parts 10 (bl s)).length (wtx (parts 10 (bl s))) ∧ Kp none' w w' := by
  go_enter Tryd.func14, Tryd.ntmps14
  go_wp2
  go_loopw [3, 4, 5] (fun v x0 i wr => ∃ (k : Nat) (x : ByteArray) (o : List (List UInt8)), k ≤ s.size ∧ i = .int .i64 k ∧ x0 = .string x ∧ Hid (Lns ((bl s).take k) w.heap.size w wr v x o)) (fun _ _ i _ => s.size - (intOf i).toNat)
  case atStart => exact ⟨0, _, [], Nat.zero_le _, rfl, rfl, rfl, World.ownsRow_nil _ _ _ _, Kp.refl _ _⟩
  case round =>
    obtain ⟨k, x, o, hk, rfl, rfl, hw⟩ := hrel
    obtain ⟨ao, cap, rfl⟩ := own_shape hw.out.own
    have hln := hw.out.len
    have hsz := hw.out.kp.size
    by_cases hlt : k < s.size
    · have hl2 : o.length + x.size ≤ k := by rw [List.length_take, bl_len] at hln; omega
      clear hln
      by_cases hb : (s[k] == 10) = true
      · have h10 : s[k] = 10 := by simpa using hb
        have hcs : ((s[k].toNat : Int) == 10) = true := by rw [h10]; rfl
        have HB := Lib.hid hb; have HTB := Lib.hid (take_bl s k hlt)
        clear hb h10
        go_wp2_with (at_builtin; refine wp_app1 tStr (.tmp 16) (.tmp 18) rfl rfl w.heap.size (hw.out.own.alloc _) [.string x] rfl rfl rfl (heap_new _ _) rfl (by omega) (by omega) (by simp; omega) ?_)
        intro g1 cap1 w1 hown1 hgrow
        have HO := Lib.hid hown1
        have HK : Hid (Kp none' w w1) := (hw.out.kp.alloc _).grown hgrow (fun b e => .inr (own_block hw.out.own e).1)
        clear hown1 hgrow
        go_wp2
        go_roundw
        case rel => exact ⟨k + 1, _, o ++ [bl x], by omega, by go_num, rfl, by rw [HTB.out]; exact hw.out.feed HB.out HO.out HK.out⟩
        case measure => simp [intOf]; omega
      · have hb' : (s[k] == 10) = false := by simpa using hb
        have h1 : ((s[k].toNat : Int) == 10) = false := by
          rw [beq_eq_false_iff_ne]; intro e
          have : s[k].toNat = 10 := by omega
          exact hb (by rw [beq_iff_eq]; exact UInt8.toNat_inj.1 this)
        have HTB := Lib.hid (take_bl s k hlt)
        have hone := bl_one s k hlt
        have hos : (s.extract k (k + 1)).size = 1 := by rw [← bl_len, hone]; rfl
        have hct := fun W => cat_run (P := Tryd.prog) x (s.extract k (k + 1)) (by rw [hos]; omega) W
        have HONE := Lib.hid hone; have HB := Lib.hid hb'
        clear hone hos hb hb'
        go_wp2
        go_roundw
        case rel => exact ⟨k + 1, _, o, by omega, by go_num, rfl, by rw [HTB.out]; exact hw.out.sign HB.out (by rw [bl_app, HONE.out])⟩
        case measure => simp [intOf]; omega
    · have hall : (bl s).take k = bl s := List.take_of_length_le (by rw [bl_len]; omega)
      rw [hall] at hw hln
      rw [bl_len] at hln
      clear hall
      have HD := Lib.hid hw.out.done
      go_wp2_with (at_builtin; refine wp_app1 tStr (.tmp 27) (.tmp 29) rfl rfl w.heap.size (hw.out.own.alloc _) [.string x] rfl rfl rfl (heap_new _ _) rfl (by omega) (by omega) (by simp; omega) ?_)
      intro g1 cap1 w1 hown1 hgrow
      have HO := Lib.hid hown1
      have HK : Hid (Kp none' w w1) := (hw.out.kp.alloc _).grown hgrow (fun b e => .inr (own_block hw.out.own e).1)
      clear hown1 hgrow
      go_wp2
      go_ret
      exact ⟨_, rfl, by rw [HD.out, wtx_snoc, List.length_append]; exact HO.out, HK.out⟩
end Go.Proofs.YtkkgpaabbgdfmaaDoor
