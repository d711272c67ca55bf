/- Walks of layer 3: words, the document's. -/
import Derived.Test.YtkkgpaabbgdfmaaDoorDigY
import Derived.Test.YtkkgpaabbgdfmaaDoorShelf
import Derived.Test.YtkkgpaabbgdfmaaDoorSnoc
namespace Go.Proofs.YtkkgpaabbgdfmaaDoor
set_option linter.unusedVariables false
set_option linter.unusedSimpArgs false
open Go.RowKit Go.Shelf

theorem blank_iff {c : UInt8} : blank c = true ↔ c.toNat = 32 ∨ c.toNat = 9 := by unfold blank; simp
/-- The words of a text, as texts. -/
def wtx (l : List (List UInt8)) : List Value := strs (l.map tx)
theorem wtx_len (l : List (List UInt8)) : (wtx l).length = l.length := by simp [wtx, strs]
theorem wtx_snoc (l : List (List UInt8)) (x : ByteArray) : wtx (l ++ [bl x]) = wtx l ++ [.string x] := by simp [wtx, strs, tx_bl]
theorem wst_len (l : List UInt8) : (wst l).1.length + (wst l).2.length ≤ l.length := by
  refine snocInd (P := fun l => (wst l).1.length + (wst l).2.length ≤ l.length) (by simp [wst]) (fun l c ih => ?_) l
  rw [wst_snoc]
  unfold wstep
  by_cases hb : blank c = true
  · simp only [hb, if_true]
    by_cases hn : (wst l).2 = []
    · simp only [hn, if_true, List.length_nil, List.length_append, List.length_cons]; rw [hn] at ih; simp at ih; omega
    · simp only [if_neg hn, List.length_nil, List.length_append, List.length_cons]
      have : 0 < (wst l).2.length := by
        cases e : (wst l).2 with
        | nil => exact absurd e hn
        | cons a r => simp
      omega
  · simp only [hb]
    simp only [Bool.false_eq_true, if_false, List.length_append, List.length_cons, List.length_nil]; omega
/-- What the loop keeps: the words that ended lie in the row v, the one that has begun is x. -/
structure Wds (l : List UInt8) (B : Nat) (w wr : World) (v : Value) (x : ByteArray) (o : List (List UInt8)) : Prop where
  st : wst l = (o, bl x)
  own : wr.ownsRow B 9 1 v o.length (wtx o)
  kp : Kp none' w wr
theorem Wds.len {l : List UInt8} {B : Nat} {w wr : World} {v : Value} {x : ByteArray} {o : List (List UInt8)} (h : Wds l B w wr v x o) : o.length + x.size ≤ l.length := by
  have := wst_len l
  rw [h.st, bl_len] at this; exact this
theorem Wds.sign {l : List UInt8} {B : Nat} {w wr : World} {v : Value} {x y : ByteArray} {o : List (List UInt8)} (h : Wds l B w wr v x o) {c : UInt8} (hc : blank c = false) (hy : bl y = bl x ++ [c]) : Wds (l ++ [c]) B w wr v y o :=
  ⟨by rw [wst_snoc, h.st, wstep_sign hc, hy], h.own, h.kp⟩
theorem Wds.blank0 {l : List UInt8} {B : Nat} {w wr : World} {v : Value} {x : ByteArray} {o : List (List UInt8)} (h : Wds l B w wr v x o) {c : UInt8} (hc : blank c = true) (hx : bl x = []) : Wds (l ++ [c]) B w wr v ⟨#[]⟩ o :=
  ⟨by rw [wst_snoc, h.st, wstep_blank hc, hx]; rfl, h.own, h.kp⟩
theorem Wds.blank1 {l : List UInt8} {B : Nat} {w wr w1 : World} {v v1 : Value} {x : ByteArray} {o : List (List UInt8)} (h : Wds l B w wr v x o) {c : UInt8} (hc : blank c = true) (hx : bl x ≠ []) (ho : w1.ownsRow B 9 1 v1 (o.length + 1) (wtx o ++ [.string x])) (hk : Kp none' w w1) :
    Wds (l ++ [c]) B w w1 v1 ⟨#[]⟩ (o ++ [bl x]) :=
  ⟨by rw [wst_snoc, h.st, wstep_blank hc]; unfold wend; simp only [if_neg hx]; rfl, by rw [wtx_snoc, List.length_append]; exact ho, hk⟩
theorem Wds.done0 {l : List UInt8} {B : Nat} {w wr : World} {v : Value} {x : ByteArray} {o : List (List UInt8)} (h : Wds l B w wr v x o) (hx : bl x = []) : words l = o := by
  unfold words; rw [h.st, hx]; rfl
theorem Wds.done1 {l : List UInt8} {B : Nat} {w wr : World} {v : Value} {x : ByteArray} {o : List (List UInt8)} (h : Wds l B w wr v x o) (hx : bl x ≠ []) : words l = o ++ [bl x] := by
  unfold words; rw [h.st]; unfold wend; simp only [if_neg hx]
theorem bl_one (s : ByteArray) (k : Nat) (h : k < s.size) : bl (s.extract k (k + 1)) = [s[k]] := by
  rw [bl_cut, show k + 1 - k = 1 by omega]
  rw [List.drop_eq_getElem_cons (by rw [bl_len]; exact h), List.take_succ_cons, List.take_zero, bl_get s k h]
theorem nil_iff {x : ByteArray} : x.toList.isEmpty = true ↔ bl x = [] := by rw [bl_nil, List.isEmpty_iff]
theorem nil_not {x : ByteArray} : x.toList.isEmpty = false ↔ bl x ≠ [] := by rw [← Bool.not_eq_true, nil_iff]
theorem take_bl (s : ByteArray) (k : Nat) (h : k < s.size) : (bl s).take (k + 1) = (bl s).take k ++ [s[k]] := by
  rw [List.take_succ_eq_append_getElem (by rw [bl_len]; exact h), bl_get s k h]

set_option maxHeartbeats 2000000 in
theorem rWords (s : ByteArray) (w : World) (hs : s.size ≤ 1000000) : Calls Tryd.prog 32 #[.string s] w fun e w' => ∃ v, e = .returned v ∧ w'.ownsRow w.heap.size 9 1 v (words (bl s)).length (wtx (words (bl s))) ∧ Kp none' w w' := by
  go_enter Tryd.func32, Tryd.ntmps32
  go_wp2
  go_loopw [3, 4, 5] (fun v x0 i wr => ∃ (k : Nat) (x : ByteArray) (o : List (List UInt8)), k ≤ s.size ∧ i = .int .i64 k ∧ x0 = .string x ∧ Hid (Wds ((bl s).take k) w.heap.size w wr v x o)) (fun _ _ i _ => s.size - (intOf i).toNat)
  case atStart => exact ⟨0, _, [], Nat.zero_le _, rfl, rfl, rfl, World.ownsRow_nil _ _ _ _, Kp.refl _ _⟩
  case round =>
    obtain ⟨k, x, o, hk, rfl, rfl, hw⟩ := hrel
    obtain ⟨ao, cap, rfl⟩ := own_shape hw.out.own
    have hln := hw.out.len
    have hsz := hw.out.kp.size
    by_cases hlt : k < s.size
    · have hl2 : o.length + x.size ≤ k := by rw [List.length_take, bl_len] at hln; omega
      clear hln
      by_cases hb : blank s[k] = true
      · have hcc := blank_iff.1 hb
        have hcs : (((s[k].toNat : Int) != 32) = false ∨ (((s[k].toNat : Int) != 32) = true ∧ ((s[k].toNat : Int) != 9) = false)) := by
          rcases hcc with h | h
          · exact .inl (by rw [bne_eq_false_iff_eq]; omega)
          · exact .inr ⟨by rw [bne_iff_ne]; omega, by rw [bne_eq_false_iff_eq]; omega⟩
        have HB := Lib.hid hb; have HTB := Lib.hid (take_bl s k hlt)
        clear hb hcc
        by_cases hx : bl x = []
        · have hx' := nil_iff.2 hx
          have HX := Lib.hid hx; clear hx
          rcases hcs with h1 | ⟨h1, h2⟩
          all_goals
            go_wp2
            go_roundw
            case rel => exact ⟨k + 1, _, o, by omega, by go_num, rfl, by rw [HTB.out]; exact hw.out.blank0 HB.out HX.out⟩
            case measure => simp [intOf]; omega
        · have hx' := nil_not.2 hx
          have HX := Lib.hid hx; clear hx
          rcases hcs with h1 | ⟨h1, h2⟩
          all_goals
            go_wp2_with (at_builtin; refine wp_app1 tStr (.tmp 31) (.tmp 33) rfl rfl w.heap.size (hw.out.own.alloc _) [.string x] rfl rfl rfl (heap_new _ _) rfl (by omega) (by omega) (by simp; omega) ?_)
            intro g1 cap1 w1 hown1 hgrow
            have HO := Lib.hid hown1
            have HK : Hid (Kp none' w w1) := (hw.out.kp.alloc _).grown hgrow (fun b e => .inr (own_block hw.out.own e).1)
            clear hown1 hgrow
            go_wp2
            go_roundw
            case rel => exact ⟨k + 1, _, o ++ [bl x], by omega, by go_num, rfl, by rw [HTB.out]; exact hw.out.blank1 HB.out HX.out HO.out HK.out⟩
            case measure => simp [intOf]; omega
      · have hb' : blank s[k] = false := by simpa using hb
        have h1 : ((s[k].toNat : Int) != 32) = true := by rw [bne_iff_ne]; intro e; exact hb (blank_iff.2 (.inl (by omega)))
        have h2 : ((s[k].toNat : Int) != 9) = true := by rw [bne_iff_ne]; intro e; exact hb (blank_iff.2 (.inr (by omega)))
        have HTB := Lib.hid (take_bl s k hlt)
        have hone := bl_one s k hlt
        have hos : (s.extract k (k + 1)).size = 1 := by rw [← bl_len, hone]; rfl
        have hct := fun W => cat_run (P := Tryd.prog) x (s.extract k (k + 1)) (by rw [hos]; omega) W
        have HONE := Lib.hid hone; have HB := Lib.hid hb'
        clear hone hos hb hb'
        go_wp2
        go_roundw
        case rel => exact ⟨k + 1, _, o, by omega, by go_num, rfl, by rw [HTB.out]; exact hw.out.sign HB.out (by rw [bl_app, HONE.out])⟩
        case measure => simp [intOf]; omega
    · have hall : (bl s).take k = bl s := List.take_of_length_le (by rw [bl_len]; omega)
      rw [hall] at hw hln
      rw [bl_len] at hln
      clear hall
      by_cases hx : bl x = []
      · have hx' := nil_iff.2 hx
        have HD := Lib.hid (hw.out.done0 hx)
        clear hx
        go_wp2
        go_ret
        exact ⟨_, rfl, by rw [HD.out]; exact hw.out.own, hw.out.kp⟩
      · have hx' := nil_not.2 hx
        have HD := Lib.hid (hw.out.done1 hx)
        clear hx
        go_wp2_with (at_builtin; refine wp_app1 tStr (.tmp 37) (.tmp 39) rfl rfl w.heap.size (hw.out.own.alloc _) [.string x] rfl rfl rfl (heap_new _ _) rfl (by omega) (by omega) (by simp; omega) ?_)
        intro g1 cap1 w1 hown1 hgrow
        have HO := Lib.hid hown1
        have HK : Hid (Kp none' w w1) := (hw.out.kp.alloc _).grown hgrow (fun b e => .inr (own_block hw.out.own e).1)
        clear hown1 hgrow
        go_wp2
        go_ret
        exact ⟨_, rfl, by rw [HD.out, wtx_snoc, List.length_append]; exact HO.out, HK.out⟩
end Go.Proofs.YtkkgpaabbgdfmaaDoor
