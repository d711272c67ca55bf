/- FlowPlays (layer 15): the law's walk. -/
import Derived.Test.YthnlggecjdifnaaFlSt
import Derived.Test.YthnlggecjdifnaaFlowL
namespace Go.Proofs.Ythnlggecjdifnaa
set_option linter.unusedVariables false
set_option linter.unusedSimpArgs false
open Go.RowKit flowInt

def enAc (a : Nat × Nat × Int) : List Value := [.int .u8 a.1, .int .u32 a.2.1, .int .i64 a.2.2]
theorem enAc_len (a : Nat × Nat × Int) : (enAc a).length = 3 := rfl
def okAc (a : Nat × Nat × Int) : Prop := a.1 < 256 ∧ a.2.1 < 4294967296
set_option maxRecDepth 100000 in
set_option maxHeartbeats 4000000 in
theorem fNewBad (room : Int) (h : room < 1 ∨ 4096 < room) (w : World) : Calls Try.prog 4 #[.int .i64 room] w fun e w' => e = .returned (.tuple #[.pointer none, .int .i64 25]) ∧ w = w' := by
  by_cases h1 : room < 1
  · clear h
    go_enter Try.func4, Try.ntmps4
    go_wp2
    go_ret2
    exact ⟨rfl, rfl⟩
  · have h2 : 4096 < room := by omega
    clear h
    go_enter Try.func4, Try.ntmps4
    go_wp2
    go_ret2
    exact ⟨rfl, rfl⟩
structure PlI (w wr : World) (tb room lb : Nat) (v : Value) (l E : List (Nat × Int)) : Prop where
  s : SI wr w.heap.size tb room lb v l E
  kp : Kp (fun b => w.heap.size ≤ b) w wr
theorem PlI.old {w wr w' : World} {tb room lb : Nat} {v : Value} {l E : List (Nat × Int)} (h : PlI w wr tb room lb v l E) (k : Kp none' wr w') : PlI w w' tb room lb v l E := ⟨h.s.old k, h.kp.then k (fun _ _ x => x.elim)⟩
theorem acGet {w : World} {v : Value} {n : Nat} {l : List (Nat × Nat × Int)} (h : Sl w v n 3 (l.flatMap enAc)) (j : Nat) (hj : j < l.length) (a : Nat × Nat × Int) (ha : l[j] = a) :
    ∃ b off cap, v = .slice (some ⟨b, off, none⟩) n cap ∧ w.cell? ⟨b, off + j * 3, none⟩ = some (.int .u8 a.1) ∧ w.cell? ⟨b, off + j * 3 + 1, none⟩ = some (.int .u32 a.2.1) ∧ w.cell? ⟨b, off + j * 3 + 2, none⟩ = some (.int .i64 a.2.2) := by
  obtain ⟨b, off, cap, e, hc⟩ := h.at enAc_len (by decide) j hj
  rw [ha] at hc
  exact ⟨b, off, cap, e, hc 0 _ rfl, hc 1 _ rfl, hc 2 _ rfl⟩
set_option maxRecDepth 100000 in
set_option maxHeartbeats 8000000 in
theorem playsLaw (room : Int) (acts : List (Nat × Nat × Int)) (hok : ∀ a ∈ acts, okAc a) (u : Value) (w : World) (h1 : Sl w u acts.length 3 (acts.flatMap enAc)) :
    Calls Try.prog 3 #[.int .i64 room, u] w fun e w' => e = .returned (.bool true) ∧ Kp (fun b => w.heap.size ≤ b) w w' := by
  obtain ⟨ao, acap, rfl⟩ : ∃ ao cap, u = .slice ao acts.length cap := by obtain ⟨ao, cap, rfl, _⟩ := h1.is; exact ⟨_, _, rfl⟩
  have HX := Lib.hid h1
  have hmax := h1.max
  have GL := Lib.hid (fun W (k : Kp (fun b => w.heap.size ≤ b) w W) => (lives15 W).mono fun e W' h => (⟨h.1, k.then h.2 (fun _ _ x => x.elim)⟩ : e = .returned (.bool true) ∧ Kp (fun b => w.heap.size ≤ b) w W'))
  clear h1
  by_cases hm : room < 1 ∨ 4096 < room
  · have HN := Lib.hid (fNewBad room hm w)
    have HK3 : Hid (Kp (fun b => w.heap.size ≤ b) w w) := Kp.refl _ _
    rcases hm with hm | hm
    · go_enter Try.func3, Try.ntmps3
      go_wp2_with (go_at_call 4; refine HN.out.mono ?_; rintro e w' ⟨rfl, rfl⟩)
      refine (GL.out _ (by exact HK3.out)).mono ?_
      rintro e w3 ⟨rfl, k3⟩
      have K3 := Lib.hid k3
      clear k3
      go_wp2
      go_ret
      exact ⟨rfl, K3.out⟩
    · have hm1 : ¬ room < 1 := by omega
      have hm2 : 1 ≤ room := by omega
      go_enter Try.func3, Try.ntmps3
      go_wp2_with (go_at_call 4; refine HN.out.mono ?_; rintro e w' ⟨rfl, rfl⟩)
      refine (GL.out _ (by exact HK3.out)).mono ?_
      rintro e w3 ⟨rfl, k3⟩
      have K3 := Lib.hid k3
      clear k3
      go_wp2
      go_ret
      exact ⟨rfl, K3.out⟩
  · obtain ⟨rm, rfl⟩ : ∃ rm : Nat, room = rm := ⟨room.toNat, by omega⟩
    have hm1 : (1 : Int) ≤ rm := by omega
    have hm2 : (rm : Int) ≤ 4096 := by omega
    clear hm
    have HN := Lib.hid (bNew rm (by omega) (by omega) w)
    by_cases hfar : 200 < acts.length
    · have hf : (200 : Int) < acts.length := by omega
      go_enter Try.func3, Try.ntmps3
      go_wp2_with (go_at_call 4; refine HN.out.mono ?_; rintro e w1 ⟨tb, rfl, ht, hk⟩; have HK3 := Lib.hid (hk.mono (T := fun b => w.heap.size ≤ b) fun _ _ x => x.elim); clear ht hk)
      refine (GL.out _ (by exact HK3.out)).mono ?_
      rintro e w3 ⟨rfl, k3⟩
      have K3 := Lib.hid k3
      clear k3
      go_wp2
      go_ret
      exact ⟨rfl, K3.out⟩
    · have hf : ¬ (200 : Int) < acts.length := by omega
      go_enter Try.func3, Try.ntmps3
      go_wp2_with (go_at_call 4; refine HN.out.mono ?_; rintro e w1 ⟨tb, rfl, ht, hk⟩; have HT1 := Lib.hid ht; have HK1 := Lib.hid hk; clear ht hk)
      have HI0 : Hid (PlI w (w1.alloc (.cells #[.slice none 0 0] 28)) tb rm w1.heap.size (.slice none 0 0) [] []) := by
        have hk2 := (Kp.refl none' w1).alloc (.cells #[.slice none 0 0] 28)
        exact ⟨⟨HT1.out.kp hk2 (fun _ _ x => x), Blk.new w1 [.slice none 0 0] _, World.ownsRow_nil _ _ _ _, Rel.nil, HK1.out.size, Nat.le_trans HK1.out.size hk2.size⟩, (HK1.out.trans hk2).mono (fun _ _ x => x.elim)⟩
      clear HT1
      go_loopw [53] (fun i0 wr => ∃ (j : Nat) (v : Value) (l E : List (Nat × Int)), i0 = .int .i64 j ∧ j ≤ acts.length ∧ Hid (PlI w wr tb rm w1.heap.size v l E)) (fun i0 _ => acts.length - (intOf i0).toNat)
      case atStart => exact ⟨0, _, _, _, rfl, Nat.zero_le _, HI0.out⟩
      case round =>
        clear HI0
        obtain ⟨j, v, l, E, rfl, hj, HI⟩ := hrel
        by_cases hlt : j < acts.length
        · have hji : (j : Int) < acts.length := by omega
          obtain ⟨⟨k, id, x⟩, ha⟩ : ∃ a, acts[j] = a := ⟨_, rfl⟩
          obtain ⟨b, off, cap', e1, c0, c1, c2⟩ := acGet (HX.out.kp HI.out.kp (fun b hb _ => by show ¬ _ ≤ b; omega)) j hlt _ ha
          injection e1 with e1 _ e3
          subst e1 e3
          have hka : okAc (k, id, x) := hok _ (by rw [← ha]; exact List.getElem_mem hlt)
          obtain ⟨hk256, hid⟩ := hka
          simp only at hk256 hid c0 c1 c2
          clear ha
          have HI1 := Lib.hid (HI.out.old ((Kp.refl none' wr).alloc (.cells #[.int .u8 k, .int .u32 id, .int .i64 x] 31)))
          have HB1 := Lib.hid (Blk.new wr [.int .u8 k, .int .u32 id, .int .i64 x] 31)
          have HS := Lib.hid (stepW _ _ _ _ _ _ _ _ HI1.out.s k id x hk256 hid)
          have d0 := HB1.out.cell 0 rfl
          have d1 := HB1.out.cell 1 rfl
          have d2 := HB1.out.cell 2 rfl
          clear HI
          go_wp2_with (first
            | (go_at_call 6; refine HS.out.mono ?_; rintro e w3 ⟨rfl, ⟨v', l', E', hs3⟩, hk3, hb3⟩
               have HB3 := Lib.hid (hb3 _ _ _ HB1.out (by decide) (by decide) (blk_ne HB1.out HI1.out.s.box (by decide)))
               have HI3 : Hid (PlI w w3 tb rm w1.heap.size v' l' E') := ⟨hs3, HI1.out.kp.trans hk3⟩
               obtain ⟨vo, vcap, rfl⟩ := own_shape hs3.row
               have b3 := hs3.box.cell 0 rfl
               have HTL := Lib.hid (tellsW w3 _ _ _ _ _ _ hs3.tab hs3.rel hs3.row)
               clear hs3 hk3 hb3 d0 d1 d2 c0 c1 c2)
            | (go_at_call 7; refine HTL.out.mono ?_; rintro e w4 ⟨rfl, hk4⟩
               have HI4 := Lib.hid (HI3.out.old hk4)
               have HB4 := Lib.hid (HB3.out.kp hk4 (fun x => x))
               have d1 := HB4.out.cell 1 rfl
               have b4 := HI4.out.s.box.cell 0 rfl
               clear hk4 b3))
          have hle : l'.length ≤ 4096 := HI4.out.s.len
          by_cases hin : id ∈ l'.map (·.1)
          · obtain ⟨k2, y, hpos, hky⟩ := posE_get hin
            have hkl := (List.getElem?_eq_some_iff.1 hky).1
            have hyE : (id, y) ∈ E' := HI4.out.s.rel.perm.mem_iff.1 (List.mem_iff_getElem?.2 ⟨k2, hky⟩)
            have hkl2 : (k2 : Int) < (l'.length : Int) := by omega
            have hk20 : (0 : Int) ≤ (k2 : Int) := by omega
            refine (bGet HI4.out.s.tab id hid y hyE).mono ?_
            rintro e w5 ⟨rfl, hk5⟩
            have HI5 := Lib.hid (HI4.out.old hk5)
            have d5 := (HB4.out.kp hk5 (fun x => x)).cell 1 rfl
            have b5 := HI5.out.s.box.cell 0 rfl
            obtain ⟨g, cap2, e, ce0, ce1⟩ := HI5.out.s.row.get k2 _ hky
            injection e with e1 _ e3
            subst e1 e3
            have hf := rFindE w5 _ _ _ HI5.out.s.row id (by omega)
            rw [hpos] at hf
            have HF := Lib.hid hf
            clear hf hpos hky hyE hin hk5 HI4 HB4 b4 d1
            go_wp2_with (go_at_call 9; refine HF.out.mono ?_; rintro e w' ⟨rfl, rfl⟩)
            go_roundw
            case rel => exact ⟨j + 1, _, _, _, by go_num, by omega, HI5.out⟩
            case measure => simp [intOf]; omega
          · refine (bGetNone HI4.out.s.tab id hid (HI4.out.s.rel.notin hin)).mono ?_
            rintro e w5 ⟨rfl, hk5⟩
            have HI5 := Lib.hid (HI4.out.old hk5)
            have d5 := (HB4.out.kp hk5 (fun x => x)).cell 1 rfl
            have b5 := HI5.out.s.box.cell 0 rfl
            have hf := rFindE w5 _ _ _ HI5.out.s.row id (by omega)
            rw [posE_no hin] at hf
            have HF := Lib.hid hf
            clear hf hin hk5 HI4 HB4 b4 d1
            go_wp2_with (go_at_call 9; refine HF.out.mono ?_; rintro e w' ⟨rfl, rfl⟩)
            go_roundw
            case rel => exact ⟨j + 1, _, _, _, by go_num, by omega, HI5.out⟩
            case measure => simp [intOf]; omega
        · obtain rfl : j = acts.length := by omega
          have HK3 := Lib.hid HI.out.kp
          go_wp2_with fail
          refine (GL.out _ (by exact HK3.out)).mono ?_
          rintro e w3 ⟨rfl, k3⟩
          have K3 := Lib.hid k3
          clear k3
          go_wp2
          go_ret
          exact ⟨rfl, K3.out⟩
end Go.Proofs.Ythnlggecjdifnaa
