/- Layer 15: Each over the table, with the closure of tells; tells. -/
import Derived.Test.YthnlggecjdifnaaFlE
import Derived.Test.YthnlggecjdifnaaSoPUint32
namespace Go.Proofs.Ythnlggecjdifnaa
set_option linter.unusedVariables false
set_option linter.unusedSimpArgs false
open Go.RowKit flowInt

theorem CI.turn {W W' : World} {B0 B1 bt ba bl bi : Nat} {v vi : Value} {l : List (Nat × Int)} {i j : Nat} (h : CI W B0 B1 bt ba bl bi v vi l i) (k : Kp (fun b => b = bt ∨ b = ba) W W') (h1 : Blk W' bt [.bool true] 4) (h2 : Blk W' ba [.int .i64 j] 3) : CI W' B0 B1 bt ba bl bi v vi l j := by
  refine ⟨h1, h2, h.box.kp k ?_, h.ids.kp k ?_, own_kp h.row k ?_, own_kp h.num k ?_⟩
  · rintro (e | e)
    · exact blk_ne h.box h.ok (by decide) e
    · exact blk_ne h.box h.at_ (by decide) e
  · rintro (e | e)
    · exact blk_ne h.ids h.ok (by decide) e
    · exact blk_ne h.ids h.at_ (by decide) e
  · rintro b hb (rfl | rfl)
    · exact own_ne_blk h.row h.ok (by decide) hb
    · exact own_ne_blk h.row h.at_ (by decide) hb
  · rintro b hb (rfl | rfl)
    · exact own_ne_blk h.num h.ok (by decide) hb
    · exact own_ne_blk h.num h.at_ (by decide) hb
theorem CI.old {W W' : World} {B0 B1 bt ba bl bi : Nat} {v vi : Value} {l : List (Nat × Int)} {i : Nat} (h : CI W B0 B1 bt ba bl bi v vi l i) (k : Kp none' W W') : CI W' B0 B1 bt ba bl bi v vi l i :=
  ⟨h.ok.kp k (fun x => x), h.at_.kp k (fun x => x), h.box.kp k (fun x => x), h.ids.kp k (fun x => x), own_kp h.row k (fun _ _ x => x), own_kp h.num k (fun _ _ x => x)⟩
structure EaI (W1 wr : World) (B0 B1 tb room bt ba bl bi : Nat) (v vi v2 : Value) (B2 : Nat) (l E : List (Nat × Int)) (i : Nat) : Prop where
  ci : CI wr B0 B1 bt ba bl bi v vi l i
  tab : Tb wr B0 tb room E
  row2 : wr.ownsRow B2 29 1 v2 l.length ((l.map (·.1)).map sortUint32.en)
  kp : Kp (fun b => b = bt ∨ b = ba) W1 wr
theorem EaI.old {W1 wr w' : World} {B0 B1 tb room bt ba bl bi : Nat} {v vi v2 : Value} {B2 : Nat} {l E : List (Nat × Int)} {i : Nat} (h : EaI W1 wr B0 B1 tb room bt ba bl bi v vi v2 B2 l E i) (k : Kp none' wr w') : EaI W1 w' B0 B1 tb room bt ba bl bi v vi v2 B2 l E i :=
  ⟨h.ci.old k, h.tab.kp k (fun _ _ x => x), own_kp h.row2 k (fun _ _ x => x), h.kp.then k (fun _ _ x => x.elim)⟩
theorem EaI.turn {W1 wr w' : World} {B0 B1 tb room bt ba bl bi : Nat} {v vi v2 : Value} {B2 : Nat} {l E : List (Nat × Int)} {i j : Nat} (h : EaI W1 wr B0 B1 tb room bt ba bl bi v vi v2 B2 l E i) (k : Kp (fun b => b = bt ∨ b = ba) wr w') (h1 : Blk w' bt [.bool true] 4) (h2 : Blk w' ba [.int .i64 j] 3) : EaI W1 w' B0 B1 tb room bt ba bl bi v vi v2 B2 l E j := by
  refine ⟨h.ci.turn k h1 h2, h.tab.apart k ?_, own_kp h.row2 k ?_, h.kp.trans k⟩
  · rintro b (rfl | rfl)
    · exact ⟨_, _, h.ci.ok, by decide, by decide⟩
    · exact ⟨_, _, h.ci.at_, by decide, by decide⟩
  · rintro b hb (rfl | rfl)
    · exact own_ne_blk h.row2 h.ci.ok (by decide) hb
    · exact own_ne_blk h.row2 h.ci.at_ (by decide) hb
set_option maxRecDepth 100000 in
set_option maxHeartbeats 8000000 in
theorem eachW (W : World) (B0 B1 tb room bt ba bl bi : Nat) (v vi : Value) (l E : List (Nat × Int)) (T : Tb W B0 tb room E) (R : Rel l E) (h : CI W B0 B1 bt ba bl bi v vi l 0) :
    Calls Try.prog 22 #[.pointer (some ⟨tb, 0, none⟩), .func (.func 23) #[] #[.pointer (some ⟨bt, 0, none⟩), .pointer (some ⟨ba, 0, none⟩), .pointer (some ⟨bl, 0, none⟩), .pointer (some ⟨bi, 0, none⟩)]] W fun e w' =>
      e = .returned (.tuple #[]) ∧ Blk w' bt [.bool true] 4 ∧ Blk w' ba [.int .i64 l.length] 3 ∧ Kp (fun b => b = bt ∨ b = ba) W w' := by
  have hle : l.length ≤ 4096 := by have := R.perm.length_eq; have := T.len; omega
  have HID := Lib.hid (bIDs sortUint32.pdqAtAll (by omega) T (by have := T.len; omega))
  have HT := Lib.hid T
  have HC := Lib.hid h
  have HRL := Lib.hid R
  clear T R h
  go_enter Try.func22, Try.ntmps22
  go_wp2_with (go_at_call 20; refine HID.out.mono ?_; rintro e W1 ⟨v2, ys, rfl, hr, hown, hk1⟩
               obtain rfl := HRL.out.ids hr
               have hown2 : W1.ownsRow W.heap.size 29 1 v2 l.length ((l.map (·.1)).map sortUint32.en) := by simpa using hown
               have HI0 : Hid (EaI W W1 B0 B1 tb room bt ba bl bi v vi v2 W.heap.size l E 0) := ⟨HC.out.old hk1, HT.out.kp hk1 (fun _ _ x => x), hown2, hk1.mono (fun _ _ x => x.elim)⟩
               clear hown hr hk1
               obtain ⟨ao, cap, rfl⟩ := own_shape hown2
               clear hown2)
  go_loopw [11] (fun i0 wr => ∃ i : Nat, i0 = .int .i64 i ∧ i ≤ l.length ∧ Hid (EaI W wr B0 B1 tb room bt ba bl bi v vi (.slice ao l.length cap) W.heap.size l E i)) (fun i0 _ => l.length - (intOf i0).toNat)
  case atStart => exact ⟨0, rfl, Nat.zero_le _, HI0.out⟩
  case round =>
    clear HI0
    obtain ⟨i, rfl, hi, HI⟩ := hrel
    by_cases hlt : i < l.length
    · have hii : (i : Int) < (l.length : Int) := by omega
      obtain ⟨⟨id, x⟩, hy⟩ : ∃ y, l[i]? = some y := ⟨_, List.getElem?_eq_some_iff.2 ⟨hlt, rfl⟩⟩
      obtain ⟨g, cap', e, _⟩ := own_shape1 HI.out.row2 (by omega)
      injection e with e1 _ e3
      subst e1 e3
      have c0 := own_cell HI.out.row2 i (u := .int .u32 id) (by rw [List.getElem?_map, List.getElem?_map, hy]; rfl)
      have hmem : (id, x) ∈ E := HRL.out.perm.mem_iff.1 (List.mem_iff_getElem?.2 ⟨i, hy⟩)
      have HG := Lib.hid (bGet HI.out.tab id (HI.out.tab.mem _ hmem) x hmem)
      have HY := Lib.hid hy
      clear hy hmem
      go_wp2_with (go_at_call 8; refine HG.out.mono ?_; rintro e w2 ⟨rfl, hk2⟩)
      have HI2 := Lib.hid (HI.out.old hk2)
      have HCL := Lib.hid (closW w2 B0 B1 bt ba bl bi v vi l i HI2.out.ci id x HY.out (by omega))
      clear hk2 HI HG c0
      go_wp2_with (go_at_call 23; refine HCL.out.mono ?_; rintro e w3 ⟨rfl, hb1, hb2, hk3⟩; have HI3 := Lib.hid (HI2.out.turn hk3 hb1 hb2); clear hb1 hb2 hk3 HI2 HCL)
      go_wp2
      go_roundw
      case rel => exact ⟨i + 1, by go_num, by omega, HI3.out⟩
      case measure => simp [intOf]; omega
    · obtain rfl : i = l.length := by omega
      go_wp2
      go_end0
      exact ⟨rfl, HI.out.ci.ok, HI.out.ci.at_, HI.out.kp⟩
end Go.Proofs.Ythnlggecjdifnaa
