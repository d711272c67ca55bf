/- FlowStays (layer 15): the law's walk. -/
import Derived.Test.YtkhipbpjknfloaaFlowL
import Derived.Test.YtkhipbpjknfloaaFlowTInt
namespace Go.Proofs.Ytkhipbpjknfloaa
set_option linter.unusedVariables false
set_option linter.unusedSimpArgs false
open Go.RowKit
def enU32n (x : Nat) : List Value := [.int .u32 x]
theorem enU32n_len (x : Nat) : (enU32n x).length = 1 := rfl
theorem slGet {w : World} {v : Value} {n : Nat} {l : List Nat} (h : Sl w v n 1 (l.flatMap enU32n)) (hn : n = l.length) (j : Nat) (hj : j < l.length) : ∃ b off cap, v = .slice (some ⟨b, off, none⟩) n cap ∧ w.cell? ⟨b, off + j, none⟩ = some (.int .u32 (l[j] : Nat)) := by
  obtain ⟨b, off, cap, e, hc⟩ := h.at enU32n_len (by decide) j hj
  have := hc 0 _ rfl
  rw [Nat.mul_one] at this
  exact ⟨b, off, cap, e, this⟩
open flowInt
/-- What the loops keep: the table has the thing, and not too much. -/
structure StI (w wr : World) (tb id : Nat) (x : Int) (m : Nat) (E : List (Nat × Int)) : Prop where
  tab : Tb wr w.heap.size tb 4096 E
  has : (id, x) ∈ E
  few : E.length ≤ m
  kp : Kp (fun b => w.heap.size ≤ b) w wr
theorem StI.one {w wr : World} {tb id : Nat} {x y : Int} {m : Nat} {E : List (Nat × Int)} (h : StI w wr tb id x m E) (hy : (id, y) ∈ E) : y = x := by
  have hk := h.tab.keys
  have h0 := h.has
  clear h
  induction E with
  | nil => cases hy
  | cons e r ih =>
    simp only [List.map_cons, List.nodup_cons, List.mem_map] at hk
    rcases List.mem_cons.1 hy with h1 | h1 <;> rcases List.mem_cons.1 h0 with h2 | h2
    · rw [← h2] at h1; simpa using h1
    · exact absurd ⟨_, h2, by rw [← h1]⟩ hk.1
    · exact absurd ⟨_, h1, by rw [← h2]⟩ hk.1
    · exact ih h1 hk.2 h2
theorem key_or (E : List (Nat × Int)) (o : Nat) : (∃ y, (o, y) ∈ E) ∨ ∀ y, (o, y) ∉ E := by
  by_cases h : ∃ y, (o, y) ∈ E
  · exact .inl h
  · exact .inr fun y hy => h ⟨y, hy⟩
set_option maxRecDepth 100000 in
set_option maxHeartbeats 4000000 in
theorem staysLaw (k id : Nat) (x : Int) (hid : id < 4294967296) (l m : List Nat) (hl : ∀ a ∈ l, a < 4294967296) (hm : ∀ a ∈ m, a < 4294967296) (u v : Value) (w : World) (h1 : Sl w u l.length 1 (l.flatMap enU32n)) (h2 : Sl w v m.length 1 (m.flatMap enU32n)) :
    Calls Try.prog 3 #[.agg #[.int .u8 k, .int .u32 id, .int .i64 x], u, v] w fun e w' => e = .returned (.bool true) ∧ Kp (fun b => w.heap.size ≤ b) w w' := by
  obtain ⟨ao, acap, rfl⟩ : ∃ ao cap, u = .slice ao l.length cap := by obtain ⟨ao, cap, rfl, _⟩ := h1.is; exact ⟨_, _, rfl⟩
  obtain ⟨bo, bcap, rfl⟩ : ∃ ao cap, v = .slice ao m.length cap := by obtain ⟨ao, cap, rfl, _⟩ := h2.is; exact ⟨_, _, rfl⟩
  have HX := Lib.hid h1; have HQ := Lib.hid h2
  have GL := Lib.hid (fun W (k : Kp (fun b => w.heap.size ≤ b) w W) => (lives15 W).mono fun e W' h => (⟨h.1, k.then h.2 (fun _ _ x => x.elim)⟩ : e = .returned (.bool true) ∧ Kp (fun b => w.heap.size ≤ b) w W'))
  have hkb := (Kp.refl none' w).alloc (.cells #[.int .u8 k, .int .u32 id, .int .i64 x] 24)
  have hbx := Blk.new w [.int .u8 k, .int .u32 id, .int .i64 x] 24
  have x1 := hbx.cell 1 rfl
  have x2 := hbx.cell 2 rfl
  have HKB := Lib.hid (hkb.mono (T := fun b => w.heap.size ≤ b) fun _ _ x => x.elim)
  have hml := h2.max
  have hll := h1.max
  clear h1 h2 hkb hbx
  go_enter Try.func3, Try.ntmps3
  go_wp2_with fail
  refine wp_region_kept2 [] [0, 1, 2, 3, 4] 5 (by kernel_rfl) (by kernel_rfl) (fun c a d u w h => by cases d <;> exact h) ?_
  simp only [pick, List.getElem?_cons_succ, List.getElem?_cons_zero, List.drop_succ_cons, List.drop_zero]
  show wpKL _ _ _ _ _ _
  repeat (first
    | (refine wpKL_op (by exact rfl) (by as_aux_lemma => intro W hK; have e0 := hK.cell x1 (fun x => x); have e1 := hK.cell x2 (fun x => x); go_simp; exact rfl) ?_; simp only [Act.put, List.setIfInBounds_toArray, List.set_cons_succ, List.set_cons_zero])
    | (refine wpKL_off (by exact rfl) ?_; simp only [Act.put, List.setIfInBounds_toArray, List.set_cons_succ, List.set_cons_zero]))
  show ∀ W, _ → wpList _ _ _ _ _ _
  intro W2 hK2
  have HK2 := Lib.hid (HKB.out.then hK2 (fun _ _ x => x.elim))
  clear hK2 x1 x2 HKB
  have HB : Hid (w.heap.size ≤ W2.heap.size) := HK2.out.size
  by_cases hfar : 2000 < l.length
  · have hf : (2000 : Int) < l.length := by omega
    go_wp2_with fail
    refine (GL.out _ HK2.out).mono ?_
    rintro e w3 ⟨rfl, k3⟩
    have K3 := Lib.hid k3
    clear k3
    go_wp2
    go_ret
    exact ⟨rfl, K3.out⟩
  · have hf : ¬ (2000 : Int) < l.length := by omega
    by_cases hfar2 : 2000 < m.length
    · have hf2 : (2000 : Int) < m.length := by omega
      go_wp2_with fail
      refine (GL.out _ HK2.out).mono ?_
      rintro e w3 ⟨rfl, k3⟩
      have K3 := Lib.hid k3
      clear k3
      go_wp2
      go_ret
      exact ⟨rfl, K3.out⟩
    · have hf2 : ¬ (2000 : Int) < m.length := by omega
      have T0 := Lib.hid (bNew 4096 (by omega) (by omega) W2)
      go_wp2_with fail
      refine T0.out.mono ?_
      rintro e w3 ⟨tb, rfl, h3, k3⟩
      have K3 := Lib.hid (HK2.out.then k3 (fun _ _ x => x.elim))
      obtain ⟨sb, S, n, hm3, ok3, hp3, hb1, hb2⟩ := h3
      have h3' : Tb w3 w.heap.size tb 4096 [] := ⟨sb, S, n, hm3, ok3, hp3, Nat.le_trans HB.out hb1, Nat.le_trans HB.out hb2⟩
      have T1 := Lib.hid (bPutNew h3' K3.out.size id hid x (by simp) (by simp))
      clear h3' hm3 ok3 hp3 hb1 hb2 k3 T0 HK2
      go_wp2_with fail
      refine T1.out.mono ?_
      rintro e w4 ⟨rfl, h4, k4⟩
      have I4 : Hid (StI w w4 tb id x 1 [(id, x)]) := ⟨h4, by simp, by simp, K3.out.trans k4.kp⟩
      clear h4 k4 K3 T1
      go_wp2
      go_loopw [47] (fun i0 wr => ∃ (j : Nat) (E : List (Nat × Int)), i0 = .int .i64 j ∧ j ≤ l.length ∧ Hid (StI w wr tb id x (j + 1) E)) (fun i0 _ => l.length - (intOf i0).toNat)
      case atStart => exact ⟨0, _, rfl, by omega, I4.out⟩
      case round =>
        obtain ⟨j, E, rfl, hj, hr⟩ := hrel
        by_cases hlt : j < l.length
        · obtain ⟨b, off, cap', e1, hc⟩ := slGet (HX.out.kp hr.out.kp (fun b hb _ => by show ¬ _ ≤ b; omega)) rfl j hlt
          injection e1 with e1 _ e3
          subst e1 e3
          obtain ⟨o, ho⟩ : ∃ o, l[j] = o := ⟨_, rfl⟩
          rw [ho] at hc
          have ho32 : o < 4294967296 := hl o (by rw [← ho]; exact List.getElem_mem hlt)
          have hji : (j : Int) < l.length := by omega
          have hlen := hr.out.tab.len
          have hfew := hr.out.few
          clear ho I4
          rcases key_or E o with ⟨y, hy⟩ | hn
          · have T := Lib.hid (bPutThere hr.out.tab o ho32 j y hy)
            go_wp2_with fail
            refine T.out.mono ?_
            rintro e w5 ⟨rfl, k5⟩
            have I5 : Hid (StI w w5 tb id x (j + 1 + 1) E) := ⟨hr.out.tab.kp k5 (fun _ _ x => x), hr.out.has, by omega, hr.out.kp.then k5 (fun _ _ x => x.elim)⟩
            clear k5 T hr hc hy
            by_cases hoi : o = id
            · subst hoi
              go_wp2_with fail
              go_roundw
              case rel => exact ⟨j + 1, E, by go_num, by omega, I5.out⟩
              case measure => simp [intOf]; omega
            · have hob : ((o : Int) == (id : Int)) = false := by rw [beq_eq_false_iff_ne]; omega
              go_wp2_with fail
              go_roundw
              case rel => exact ⟨j + 1, E, by go_num, by omega, I5.out⟩
              case measure => simp [intOf]; omega
          · have hoi : o ≠ id := fun e => hn x (by rw [e]; exact hr.out.has)
            have hob : ((o : Int) == (id : Int)) = false := by rw [beq_eq_false_iff_ne]; omega
            have T := Lib.hid (bPutNew hr.out.tab hr.out.kp.size o ho32 j hn (by omega))
            go_wp2_with fail
            refine T.out.mono ?_
            rintro e w5 ⟨rfl, h5, k5⟩
            have I5 : Hid (StI w w5 tb id x (j + 1 + 1) ((o, (j : Int)) :: E)) := ⟨h5, List.mem_cons_of_mem _ hr.out.has, by simp; omega, hr.out.kp.trans k5.kp⟩
            clear h5 k5 T hr hc
            go_wp2_with fail
            go_roundw
            case rel => exact ⟨j + 1, _, by go_num, by omega, I5.out⟩
            case measure => simp [intOf]; omega
        · obtain rfl : j = l.length := by omega
          clear I4 HX
          go_wp2_with fail
          go_loopw [66] (fun i0 wq => ∃ (j : Nat) (E : List (Nat × Int)), i0 = .int .i64 j ∧ j ≤ m.length ∧ Hid (StI w wq tb id x 4096 E)) (fun i0 _ => m.length - (intOf i0).toNat)
          case atStart => exact ⟨0, _, rfl, by omega, ⟨hr.out.tab, hr.out.has, by have := hr.out.few; omega, hr.out.kp⟩⟩
          case round =>
            obtain ⟨i, F, rfl, hi, hq⟩ := hrel
            clear hr
            by_cases hli : i < m.length
            · obtain ⟨b, off, cap', e1, hc⟩ := slGet (HQ.out.kp hq.out.kp (fun b hb _ => by show ¬ _ ≤ b; omega)) rfl i hli
              injection e1 with e1 _ e3
              subst e1 e3
              obtain ⟨o, ho⟩ : ∃ o, m[i] = o := ⟨_, rfl⟩
              rw [ho] at hc
              have ho32 : o < 4294967296 := hm o (by rw [← ho]; exact List.getElem_mem hli)
              have hii : (i : Int) < m.length := by omega
              clear ho
              by_cases hoi : o = id
              · have hob : ((o : Int) != (id : Int)) = false := by simp; omega
                subst hoi
                go_wp2_with fail
                go_roundw
                case rel => exact ⟨i + 1, F, by go_num, by omega, hq.out⟩
                case measure => simp [intOf]; omega
              · have hob : ((o : Int) != (id : Int)) = true := by rw [bne_iff_ne]; omega
                rcases key_or F o with ⟨y, hy⟩ | hn
                · have T := Lib.hid (bDrop hq.out.tab o ho32 y hy)
                  go_wp2_with fail
                  refine T.out.mono ?_
                  rintro e w5 ⟨rfl, h5, k5⟩
                  have I5 : Hid (StI w w5 tb id x 4096 (delF o F)) := ⟨h5, by unfold delF; exact List.mem_filter.2 ⟨hq.out.has, by simp; exact fun e => hoi e.symm⟩, Nat.le_trans (List.length_filter_le _ _) hq.out.few, hq.out.kp.trans k5.kp⟩
                  clear h5 k5 T hq hc hy
                  go_wp2_with fail
                  go_roundw
                  case rel => exact ⟨i + 1, _, by go_num, by omega, I5.out⟩
                  case measure => simp [intOf]; omega
                · have T := Lib.hid (bDropNone hq.out.tab o ho32 hn)
                  go_wp2_with fail
                  refine T.out.mono ?_
                  rintro e w5 ⟨rfl, k5⟩
                  have I5 : Hid (StI w w5 tb id x 4096 F) := ⟨hq.out.tab.kp k5 (fun _ _ x => x), hq.out.has, hq.out.few, hq.out.kp.then k5 (fun _ _ x => x.elim)⟩
                  clear k5 T hq hc
                  go_wp2_with fail
                  go_roundw
                  case rel => exact ⟨i + 1, _, by go_num, by omega, I5.out⟩
                  case measure => simp [intOf]; omega
            · obtain rfl : i = m.length := by omega
              have T := Lib.hid (bGet hq.out.tab id hid x hq.out.has)
              clear HQ
              go_wp2_with fail
              refine T.out.mono ?_
              rintro e w5 ⟨rfl, k5⟩
              have I5 : Hid (StI w w5 tb id x 4096 F) := ⟨hq.out.tab.kp k5 (fun _ _ x => x), hq.out.has, hq.out.few, hq.out.kp.then k5 (fun _ _ x => x.elim)⟩
              clear k5 T hq
              have T := Lib.hid (bDrop I5.out.tab id hid x I5.out.has)
              go_wp2_with fail
              refine T.out.mono ?_
              rintro e w6 ⟨rfl, h6, k6⟩
              have K6 := Lib.hid (I5.out.kp.trans k6.kp)
              have T7 := Lib.hid (bGetNone h6 id hid (by unfold delF; simp))
              clear h6 k6 T I5
              go_wp2_with fail
              refine T7.out.mono ?_
              rintro e w7 ⟨rfl, k7⟩
              have K7 := Lib.hid (K6.out.then k7 (fun _ _ x => x.elim))
              clear k7 K6 T7
              go_wp2_with fail
              refine (GL.out _ K7.out).mono ?_
              rintro e w8 ⟨rfl, k8⟩
              have K8 := Lib.hid k8
              clear k8
              go_wp2
              go_ret
              exact ⟨rfl, K8.out⟩
end Go.Proofs.Ytkhipbpjknfloaa
