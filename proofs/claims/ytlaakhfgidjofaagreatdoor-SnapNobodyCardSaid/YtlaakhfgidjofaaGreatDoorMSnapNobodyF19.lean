/- Walk of layer 40: the fields of numbers. -/
import Derived.Test.YtlaakhfgidjofaaGreatDoorMSnapNobodyF18
import Derived.Test.YtlaakhfgidjofaaGreatDoorMSnapNobodyF1
import Derived.Test.YtlaakhfgidjofaaGreatDoorMSnapNobodyF5
namespace Go.Proofs.YtlaakhfgidjofaaGreatDoor
set_option linter.unusedVariables false
set_option linter.unusedSimpArgs false
open Go Go.RowKit Go.Shelf
set_option maxRecDepth 100000 in
theorem bNum (n : Nat) (w : World) : Calls Tryz.prog 54 #[.int .u64 n] w fun e w' => e = .returned (.agg (enFd (.var n)).toArray) ∧ Kp none' w w' := by
  show Calls _ _ _ _ fun e w' => e = .returned (.agg #[.int .i64 5, .int .u64 n, .string ⟨#[]⟩]) ∧ Kp none' w w'
  go_enter Tryz.func54, Tryz.ntmps54
  go_wp2
  have hb := Blk.new w [.int .i64 5, .int .u64 n, .string ⟨#[]⟩] 59
  exact ret_row rfl hb _ Tryz.underlying59 rfl infoFd rfl ⟨rfl, (Kp.refl none' w).alloc _⟩
theorem bWrd (n : Nat) (hn : n < 4294967296) (w : World) : Calls Tryz.prog 56 #[.int .u32 n] w fun e w' => e = .returned (.agg (enFd (.wrd n)).toArray) ∧ Kp none' w w' := by
  show Calls _ _ _ _ fun e w' => e = .returned (.agg #[.int .i64 3, .int .u64 n, .string ⟨#[]⟩]) ∧ Kp none' w w'
  go_enter Tryz.func56, Tryz.ntmps56
  go_wp2
  have hb := Blk.new w [.int .i64 3, .int .u64 n, .string ⟨#[]⟩] 59
  exact ret_row rfl hb _ Tryz.underlying59 rfl infoFd rfl ⟨rfl, (Kp.refl none' w).alloc _⟩
theorem own_mk3 (w : World) (B : Nat) (hB : B ≤ w.heap.size) (e : TypeId) (xs : List Value) (hx : xs.length = 3) : (w.alloc (.cells xs.toArray e)).ownsRow B e 3 (.slice (some ⟨w.heap.size, 0, none⟩) 1 1) 1 xs :=
  ⟨by omega, .inr ⟨w.heap.size, 1, xs.toArray, rfl, hB, heap_new _ _, Nat.le_refl _, by unfold maxLen; omega, by simp [hx], by simp; exact List.take_of_length_le (by omega)⟩⟩
theorem n8s_get (l : List Nat) (j : Nat) (h : j < l.length) : (n8s l)[j]? = some (.int .u64 (l[j] : Nat)) := by simp [n8s, h]
theorem sl_u64 {w : World} {v : Value} {l : List Nat} (h : Sl w v l.length 1 (n8s l)) (j : Nat) (hj : j < l.length) : ∃ g off cap, v = .slice (some ⟨g, off, none⟩) l.length cap ∧ w.cell? ⟨g, off + j, none⟩ = some (.int .u64 (l[j] : Nat)) := by
  obtain ⟨ao, cap, e, hc⟩ := h.is
  obtain ⟨g, off, rfl, h1⟩ := hc j _ (n8s_get l j hj)
  exact ⟨g, off, cap, e, h1⟩
def nsC (l : List Nat) (j : Nat) : List Value := (Fd.var l.length :: (l.take j).map Fd.var).flatMap enFd
theorem nsC_snoc (l : List Nat) (j : Nat) (hj : j < l.length) : nsC l (j + 1) = nsC l j ++ [.int .i64 5, .int .u64 (l[j] : Nat), .string ⟨#[]⟩] := by
  unfold nsC
  rw [List.take_succ_eq_append_getElem hj, List.map_append]
  simp [List.flatMap_append, List.flatMap_cons, enFd, fdK, fdN, fdS]
theorem nsC_all (l : List Nat) : nsC l l.length = (nsF l).flatMap enFd := by unfold nsC nsF; rw [List.take_length]
set_option maxHeartbeats 2000000 in
theorem bNums (l : List Nat) (hn : l.length ≤ 100000) (v : Value) (w : World) (h : Sl w v l.length 1 (n8s l)) :
    Calls Tryz.prog 55 #[v] w fun e w' => ∃ r, e = .returned r ∧ w'.ownsRow w.heap.size 59 3 r (l.length + 1) ((nsF l).flatMap enFd) ∧ Kp none' w w' := by
  obtain ⟨ao, cap, rfl⟩ : ∃ ao cap, v = .slice ao l.length cap := by obtain ⟨ao, cap, rfl, _⟩ := h.is; exact ⟨_, _, rfl⟩
  have HS := Lib.hid h
  have HN : Hid (∀ (n : Nat) (W : World), Calls Tryz.prog 54 #[.int .u64 n] W fun e w' => e = .returned (.agg #[.int .i64 5, .int .u64 n, .string ⟨#[]⟩]) ∧ Kp none' W w') := fun n W => bNum n W
  clear h
  go_enter Tryz.func55, Tryz.ntmps55
  go_wp2_with fail
  refine (HN.out l.length w).mono ?_
  rintro e w1 ⟨rfl, k1⟩
  have K1 := Lib.hid k1
  clear k1
  go_wp2_with fail
  have HO : Hid ((w1.alloc (.cells #[.int .i64 5, .int .u64 l.length, .string ⟨#[]⟩] 59)).ownsRow w.heap.size 59 3 (.slice (some ⟨w1.heap.size, 0, none⟩) 1 1) 1 (enFd (.var l.length))) := own_mk3 _ _ K1.out.size _ _ rfl
  have HK := Lib.hid (K1.out.alloc (.cells #[.int .i64 5, .int .u64 l.length, .string ⟨#[]⟩] 59))
  generalize w1.alloc (.cells #[.int .i64 5, .int .u64 l.length, .string ⟨#[]⟩] 59) = w2 at *
  clear K1
  go_loopw [3, 13] (fun r i wr => ∃ j : Nat, i = .int .i64 j ∧ j ≤ l.length ∧ Hid (wr.ownsRow w.heap.size 59 3 r (j + 1) (nsC l j) ∧ Kp none' w wr)) (fun _ i _ => l.length - (intOf i).toNat)
  case atStart => exact ⟨0, rfl, by omega, HO.out, HK.out⟩
  case round =>
    obtain ⟨j, rfl, hj, hr⟩ := hrel
    obtain ⟨r1, r2⟩ := hr.out
    obtain ⟨ro, rcap, rfl⟩ := own_shape r1
    have hsz := r2.size
    have R1 := Lib.hid r1; have R2 := Lib.hid r2
    clear r1 r2 hr
    by_cases hlt : j < l.length
    · obtain ⟨g, off, cap', e1, c0⟩ := sl_u64 (HS.out.old R2.out) j hlt
      injection e1 with e1 _ e3
      subst e1 e3
      have HT := Lib.hid (nsC_snoc l j hlt)
      obtain ⟨n, hn1⟩ : ∃ n, l[j] = n := ⟨_, rfl⟩
      rw [hn1] at c0 HT
      clear hn1
      go_wp2_with fail
      refine (HN.out n wr).mono ?_
      rintro e w3 ⟨rfl, k1⟩
      have H1 := Lib.hid (own_kp (S := none') R1.out k1 (fun _ _ h => h))
      have K1 := Lib.hid (R2.out.trans k1)
      have hsz1 := K1.out.size
      clear k1
      go_wp2_with (at_builtin; refine wp_app1 tFld (.tmp 17) (.tmp 20) rfl rfl w.heap.size (H1.out.alloc _) [.int .i64 5, .int .u64 n, .string ⟨#[]⟩] rfl rfl rfl (heap_at _ _ _ (by simp)) rfl (by omega) (by omega) (by simp; omega) ?_)
      intro g2 cap2 w4 hown hgrow
      have HG : Hid (w4.ownsRow w.heap.size 59 3 (.slice (some ⟨g2, 0, none⟩) (j + 1 + 1) cap2) (j + 1 + 1) (nsC l (j + 1))) := by rw [HT.out]; exact hown
      have HK : Hid (Kp none' w w4) := (K1.out.alloc _).grown hgrow (fun b hb => .inr (by have := (own_block H1.out hb); omega))
      clear hown hgrow
      go_wp2_with fail
      go_roundw
      case rel => exact ⟨j + 1, by go_num, by omega, HG.out, HK.out⟩
      case measure => simp [intOf]; omega
    · have e : j = l.length := by omega
      subst e
      have HF : Hid (wr.ownsRow w.heap.size 59 3 (.slice ro (l.length + 1) rcap) (l.length + 1) ((nsF l).flatMap enFd)) := by have := R1.out; rwa [nsC_all] at this
      go_wp2_with fail
      go_ret
      exact ⟨_, rfl, HF.out, R2.out⟩

def QS (w : World) : List Value → List (List Wt) → Prop
  | [], [] => True
  | v :: vs, q :: qs => Sl w v q.length 4 (q.flatMap enWt) ∧ QS w vs qs
  | [], _ :: _ => False
  | _ :: _, [] => False
theorem QS.kp {S : Nat → Prop} {w w' : World} : ∀ {vs : List Value} {qs : List (List Wt)}, QS w vs qs → Kp S w w' → (∀ v ∈ vs, ∀ b, b < w.heap.size → v.ownBlock = some b → ¬ S b) → QS w' vs qs
  | [], [], _, _, _ => trivial
  | _ :: _, _ :: _, h, k, hS => ⟨h.1.kp k (hS _ (List.mem_cons_self ..)), QS.kp h.2 k (fun v hv => hS v (List.mem_cons_of_mem _ hv))⟩
  | [], _ :: _, h, _, _ => h.elim
  | _ :: _, [], h, _, _ => h.elim
theorem QS.old {w w' : World} {vs : List Value} {qs : List (List Wt)} (h : QS w vs qs) (k : Kp none' w w') : QS w' vs qs := h.kp k (fun _ _ _ _ _ x => x)
theorem QS.len {w : World} : ∀ {vs : List Value} {qs : List (List Wt)}, QS w vs qs → vs.length = qs.length
  | [], [], _ => rfl
  | _ :: _, _ :: _, h => congrArg (· + 1) (QS.len h.2)
  | [], _ :: _, h => h.elim
  | _ :: _, [], h => h.elim
theorem QS.at {w : World} : ∀ {vs : List Value} {qs : List (List Wt)}, QS w vs qs → ∀ (j : Nat) (hj : j < qs.length), ∃ v, vs[j]? = some v ∧ Sl w v qs[j].length 4 (qs[j].flatMap enWt)
  | _ :: _, _ :: _, h, 0, _ => ⟨_, rfl, h.1⟩
  | _ :: _, _ :: _, h, j + 1, hj => QS.at h.2 j (by simpa using hj)
  | [], [], _, j, hj => absurd hj (by simp)
  | [], _ :: _, h, _, _ => h.elim
  | _ :: _, [], h, _, _ => h.elim
theorem QO.qs {w : World} {B : Nat} : ∀ {vs : List Value} {qs : List (List Wt)}, QO w B vs qs → QS w vs qs
  | [], [], _ => trivial
  | _ :: _, _ :: _, h => ⟨own_sl h.1, QO.qs h.2⟩
  | [], _ :: _, h => h.elim
  | _ :: _, [], h => h.elim
structure StM (w : World) (s : StS) (vt vb vq : Value) (vs : List Value) : Prop where
  t : Sl w vt s.tags.length 1 (n8s s.tags)
  b : Sl w vb s.bounds.length 1 (n8s s.bounds)
  q : Sl w vq s.qs.length 1 vs
  qs : QS w vs s.qs
theorem StM.old {w w' : World} {s : StS} {vt vb vq : Value} {vs : List Value} (h : StM w s vt vb vq vs) (k : Kp none' w w') : StM w' s vt vb vq vs := ⟨h.t.old k, h.b.old k, h.q.old k, h.qs.old k⟩
theorem quF_len (Q : List Wt) : (quF Q).length = 1 + 4 * Q.length := by
  have h : ∀ Q : List Wt, (Q.flatMap wtF).length = 4 * Q.length := by
    intro Q
    induction Q with
    | nil => rfl
    | cons x Q ih => rw [List.flatMap_cons, List.length_append, ih]; simp [wtF]; omega
  unfold quF; rw [List.length_cons, h]; omega
theorem quFs_len (l : List (List Wt)) : l.length ≤ (l.flatMap quF).length := by
  induction l with
  | nil => simp
  | cons a l ih => have := quF_len a; rw [List.flatMap_cons, List.length_append, List.length_cons]; omega
theorem stF_len (now tok virt : Nat) (ref tags bounds : List Nat) (qs : List (List Wt)) (h : ref.length = 32) : (stF ⟨now, tok, virt, ref, tags, bounds, qs⟩).length = 36 + (tags.length + 1) + (bounds.length + 1) + 1 + (qs.flatMap quF).length := by
  unfold stF nsF
  simp only [List.length_append, List.length_cons, List.length_nil, List.length_map, h]
theorem blkSl {w : World} {b : Nat} {cs : List Value} {t : TypeId} (h : Blk w b cs t) (n sz : Nat) (hl : cs.length = n * sz) (hn : n ≤ 1000000) : Sl w (.slice (some ⟨b, 0, none⟩) n n) n sz cs :=
  ⟨hl, by omega, _, _, rfl, fun i u hu => ⟨b, 0, rfl, by rw [Nat.zero_add]; exact h.cell i hu⟩⟩
def stFl (l : List Fd) : List Value := l.flatMap enFd
theorem stFl_app (a b : List Fd) : stFl (a ++ b) = stFl a ++ stFl b := by simp [stFl]
theorem stFl_one (l : List Fd) : ∀ v ∈ stFl l, v.oneCell' = true := by
  intro v hv
  obtain ⟨f, _, hv⟩ := List.mem_flatMap.1 hv
  simp only [enFd, List.mem_cons, List.not_mem_nil, or_false] at hv
  rcases hv with rfl | rfl | rfl <;> rfl
theorem stFl_all (l : List Fd) : (stFl l).all (·.oneCell') = true := List.all_eq_true.2 (stFl_one l)
set_option maxRecDepth 100000 in
set_option maxHeartbeats 4000000 in
theorem bFields (s : StS) (ok : s.ok) (hn : (stF s).length ≤ 100000) (vt vb vq : Value) (vs : List Value) (w : World) (h : StM w s vt vb vq vs) :
    Calls Tryz.prog 20 #[.agg (stC s.now s.tok s.virt s.ref vt vb vq).toArray] w fun e w' => ∃ r, e = .returned r ∧ w'.ownsRow w.heap.size 59 3 r (stF s).length (stFl (stF s)) ∧ Kp none' w w' := by
  obtain ⟨o1, o2, o3, o4, o5, o6, o7, o8⟩ := ok
  obtain ⟨now, tok, virt, ref, tags, bounds, qs⟩ := s
  obtain ⟨ht, hb, hq, hqs⟩ := h
  simp only at *
  obtain ⟨cs, hcs⟩ : ∃ cs, stC now tok virt ref vt vb vq = cs := ⟨_, rfl⟩
  have hcl : cs.length = 38 := by rw [← hcs, stC_len _ _ _ _ o4]
  have h0 : cs[0]? = some (.int .u64 now) := by rw [← hcs]; rfl
  have h1 : cs[1]? = some (.int .u64 tok) := by rw [← hcs]; rfl
  have h2 : cs[2]? = some (.int .u64 virt) := by rw [← hcs]; rfl
  have h35 : cs[35]? = some vt := by rw [← hcs]; exact st_35 _ _ _ _ o4 _ _ _
  have h36 : cs[36]? = some vb := by rw [← hcs]; exact st_36 _ _ _ _ o4 _ _ _
  have h37 : cs[37]? = some vq := by rw [← hcs]; exact st_37 _ _ _ _ o4 _ _ _
  have hrf : ∀ i u, (n8s ref)[i]? = some u → cs[3 + i]? = some u := fun i u hu => by
    have hi : i < (n8s ref).length := (List.getElem?_eq_some_iff.1 hu).1
    rw [← hcs]; unfold stC
    rw [List.getElem?_append_right (by simp)]
    simp only [List.length_cons, List.length_nil, Nat.zero_add, Nat.add_sub_cancel_left]
    rw [List.getElem?_append_left hi]; exact hu
  rw [hcs]
  have hB := Blk.new w cs 30
  have HB := Lib.hid hB
  have HK := Lib.hid ((Kp.refl none' w).alloc (.cells cs.toArray 30))
  have HN : Hid (∀ (n : Nat) (W : World), Calls Tryz.prog 54 #[.int .u64 n] W fun e w' => e = .returned (.agg #[.int .i64 5, .int .u64 n, .string ⟨#[]⟩]) ∧ Kp none' W w') := fun n W => bNum n W
  have HT := Lib.hid ht; have HBd := Lib.hid hb; have HQ := Lib.hid hq; have HQS := Lib.hid hqs
  have H0 := Lib.hid h0; have H1 := Lib.hid h1; have H2 := Lib.hid h2; have H35 := Lib.hid h35; have H36 := Lib.hid h36; have H37 := Lib.hid h37; have HRF := Lib.hid hrf
  clear hB hcs ht hb hq hqs h0 h1 h2 h35 h36 h37 hrf o1 o2 o3 o5 o6 o7
  go_enter Tryz.func20, Tryz.ntmps20
  go_upto_region 1 with fail
  have hws : (w.alloc (.cells cs.toArray 30)).heap.size = w.heap.size + 1 := by simp
  obtain ⟨sb, hsb⟩ : ∃ sb, w.heap.size = sb := ⟨_, rfl⟩
  rw [hsb] at HB
  simp only [hsb]
  generalize w.alloc (.cells cs.toArray 30) = w0 at *
  have hs0 : w.heap.size ≤ w0.heap.size := HK.out.size
  have c0 := HB.out.cell 0 H0.out; have c1 := HB.out.cell 1 H1.out; have c2 := HB.out.cell 2 H2.out
  refine wp_region_kept2 [] [0, 1, 2, 3, 4, 5, 6, 7, 8] 9 (by kernel_rfl) (by kernel_rfl) (fun c a d u w h => by cases d <;> exact h) ?_
  simp only [pick, List.getElem?_cons_succ, List.getElem?_cons_zero, List.drop_succ_cons, List.drop_zero]
  show wpKL _ _ _ _ _ _
  repeat (first
    | (refine wpKL_op (by exact rfl) (by as_aux_lemma => intro W hK; have e0 := hK.cell c0 (fun x => x); have e1 := hK.cell c1 (fun x => x); have e2 := hK.cell c2 (fun x => x); go_simp; exact rfl) ?_; simp only [Act.put, List.setIfInBounds_toArray, List.set_cons_succ, List.set_cons_zero])
    | (refine wpKL_off (by exact rfl) ?_; simp only [Act.put, List.setIfInBounds_toArray, List.set_cons_succ, List.set_cons_zero])
    | (refine wpKL_call (by exact rfl) (by as_aux_lemma => intro W; go_simp; exact ⟨rfl, rfl⟩) (by intro W hK; with_reducible first | exact HN.out _ W) ?_; simp only [Act.put, List.setIfInBounds_toArray, List.set_cons_succ, List.set_cons_zero]))
  show ∀ W, _ → wpList _ _ _ _ _ _
  intro W1 hK1
  have HK1 := Lib.hid (HK.out.trans hK1); have HB1 := Lib.hid (HB.out.kp hK1 id)
  clear hK1 c0 c1 c2 HB HK
  go_upto_region 2 with fail
  have hO : (W1.alloc (.cells #[.int .i64 5, .int .u64 now, .string ⟨#[]⟩, .int .i64 5, .int .u64 tok, .string ⟨#[]⟩, .int .i64 5, .int .u64 virt, .string ⟨#[]⟩] 59)).ownsRow sb 59 3 (.slice (some ⟨W1.heap.size, 0, none⟩) 3 3) ([Fd.var now, .var tok, .var virt] : List Fd).length (stFl [.var now, .var tok, .var virt]) :=
    ⟨rfl, .inr ⟨W1.heap.size, 3, _, rfl, by rw [← hsb]; exact HK1.out.size, heap_new _ _, Nat.le_refl _, by unfold maxLen; omega, rfl, rfl⟩⟩
  obtain ⟨L1, hL1⟩ : ∃ L1 : List Fd, [Fd.var now, .var tok, .var virt] = L1 := ⟨_, rfl⟩
  rw [hL1] at hO
  have HL1 := Lib.hid hL1
  have hl1 : L1.length = 3 := by rw [← hL1]; rfl
  have HO := Lib.hid hO
  have HB2 := Lib.hid (HB1.out.alloc (.cells #[.int .i64 5, .int .u64 now, .string ⟨#[]⟩, .int .i64 5, .int .u64 tok, .string ⟨#[]⟩, .int .i64 5, .int .u64 virt, .string ⟨#[]⟩] 59))
  have HK2 := Lib.hid (HK1.out.alloc (.cells #[.int .i64 5, .int .u64 now, .string ⟨#[]⟩, .int .i64 5, .int .u64 tok, .string ⟨#[]⟩, .int .i64 5, .int .u64 virt, .string ⟨#[]⟩] 59))
  obtain ⟨ra, hra⟩ : ∃ ra, W1.heap.size = ra := ⟨_, rfl⟩
  rw [hra] at HO
  simp only [hra]
  clear hO hL1 hra
  generalize W1.alloc (.cells #[.int .i64 5, .int .u64 now, .string ⟨#[]⟩, .int .i64 5, .int .u64 tok, .string ⟨#[]⟩, .int .i64 5, .int .u64 virt, .string ⟨#[]⟩] 59) = W2 at *
  clear HB1 HK1
  have hR : Sl W2 (.slice (some ⟨sb, 3, none⟩) 32 32) ref.length 1 (n8s ref) := ⟨by rw [n8s_len, Nat.mul_one], by omega, some ⟨sb, 3, none⟩, 32, by rw [o4], fun i u hu => ⟨sb, 3, rfl, HB2.out.cell (3 + i) (HRF.out i u hu)⟩⟩
  have hN1 := bNums ref (by omega) _ W2 hR
  have hfl := stF_len now tok virt ref tags bounds qs o4
  have hql2 := quFs_len qs
  rw [hfl] at hn
  have hl : tags.length ≤ 100000 ∧ bounds.length ≤ 100000 ∧ qs.length ≤ 100000 := by omega
  have HTOT : Hid ((36 + (tags.length + 1) + (bounds.length + 1)) + 1 + (qs.flatMap quF).length ≤ 100000) := by show _ ≤ _; omega
  clear hfl hql2 hn
  have HN1 := Lib.hid hN1
  clear hR hN1
  go_wp2_with fail
  refine (HN1.out).mono ?_
  rintro e W3 ⟨v, rfl, ho, k1⟩
  rw [o4] at ho
  have HB3 := Lib.hid (HB2.out.kp k1 id); have HK3 := Lib.hid (HK2.out.trans k1)
  have HO3 := Lib.hid (own_kp (S := none') HO.out k1 (fun _ _ h => h))
  have HS3 := Lib.hid (own_sl ho)
  have hsz3 := HK3.out.size
  clear ho k1 HB2 HK2 HO
  obtain ⟨va, vcap, rfl⟩ : ∃ va vcap, v = .slice va 33 vcap := by obtain ⟨_, _, va, vcap, rfl, _⟩ := HS3.out; exact ⟨_, _, rfl⟩
  go_wp2_with (at_builtin; refine wp_appSl tFld (.tmp 18) (.tmp 21) rfl rfl sb HO3.out rfl rfl HS3.out (stFl_all _) (by omega) (by omega) (by omega) ?_)
  intro v4 W4 hown hgrow
  have hk4 : Kp (fun b => (Value.slice (some ⟨ra, 0, none⟩) 3 3).ownBlock = some b) W3 W4 := (Kp.refl _ W3).grown hgrow (fun b hb => .inl hb)
  have hnsb := own_ne_blk HO3.out HB3.out (by decide)
  have HB2 := Lib.hid (HB3.out.kp hk4 hnsb)
  have HK2 : Hid (Kp none' w W4) := HK3.out.then hk4 (fun i hi hb => by have := (own_block HO3.out hb).1; omega)
  obtain ⟨L2, hL2⟩ : ∃ L2 : List Fd, L1 ++ nsF ref = L2 := ⟨_, rfl⟩
  replace hown : W4.ownsRow sb 59 3 v4 36 (stFl L2) := by rw [← hL2, stFl_app]; exact hown
  obtain ⟨ra, rcap, rfl⟩ := own_shape hown
  have HL2 := Lib.hid hL2
  have HO := Lib.hid hown
  clear hown hgrow hk4 hnsb hL2 HB3 HK3 HO3 HS3
  clear hsz3
  have c := HB2.out.cell 35 H35.out
  have HN1 := Lib.hid (bNums tags hl.1 _ W4 (HT.out.old HK2.out))
  go_wp2_with fail
  refine (HN1.out).mono ?_
  rintro e W5 ⟨v, rfl, ho, k1⟩
  have HB3 := Lib.hid (HB2.out.kp k1 id); have HK3 := Lib.hid (HK2.out.trans k1)
  have HO3 := Lib.hid (own_kp (S := none') HO.out k1 (fun _ _ h => h))
  have HS3 := Lib.hid (own_sl ho)
  have hsz3 := HK3.out.size
  clear ho k1 HB2 HK2 HO HN1 c
  obtain ⟨va, vcap, rfl⟩ : ∃ va vcap, v = .slice va (tags.length + 1) vcap := by obtain ⟨_, _, va, vcap, rfl, _⟩ := HS3.out; exact ⟨_, _, rfl⟩
  go_wp2_with (at_builtin; refine wp_appSl tFld (.tmp 23) (.tmp 26) rfl rfl sb HO3.out rfl rfl HS3.out (stFl_all _) (by omega) (by omega) (by omega) ?_)
  intro v4 W6 hown hgrow
  have hk4 : Kp (fun b => (Value.slice ra 36 rcap).ownBlock = some b) W5 W6 := (Kp.refl _ W5).grown hgrow (fun b hb => .inl hb)
  have hnsb := own_ne_blk HO3.out HB3.out (by decide)
  have HB2 := Lib.hid (HB3.out.kp hk4 hnsb)
  have HK2 : Hid (Kp none' w W6) := HK3.out.then hk4 (fun i hi hb => by have := (own_block HO3.out hb).1; omega)
  obtain ⟨L3, hL3⟩ : ∃ L3 : List Fd, L2 ++ nsF tags = L3 := ⟨_, rfl⟩
  replace hown : W6.ownsRow sb 59 3 v4 (36 + (tags.length + 1)) (stFl L3) := by rw [← hL3, stFl_app]; exact hown
  obtain ⟨ra, rcap, rfl⟩ := own_shape hown
  have HL3 := Lib.hid hL3
  have HO := Lib.hid hown
  clear hown hgrow hk4 hnsb hL3 HB3 HK3 HO3 HS3
  clear hsz3
  have c := HB2.out.cell 36 H36.out
  have HN1 := Lib.hid (bNums bounds hl.2.1 _ W6 (HBd.out.old HK2.out))
  go_wp2_with fail
  refine (HN1.out).mono ?_
  rintro e W7 ⟨v, rfl, ho, k1⟩
  have HB3 := Lib.hid (HB2.out.kp k1 id); have HK3 := Lib.hid (HK2.out.trans k1)
  have HO3 := Lib.hid (own_kp (S := none') HO.out k1 (fun _ _ h => h))
  have HS3 := Lib.hid (own_sl ho)
  have hsz3 := HK3.out.size
  clear ho k1 HB2 HK2 HO HN1 c
  obtain ⟨va, vcap, rfl⟩ : ∃ va vcap, v = .slice va (bounds.length + 1) vcap := by obtain ⟨_, _, va, vcap, rfl, _⟩ := HS3.out; exact ⟨_, _, rfl⟩
  go_wp2_with (at_builtin; refine wp_appSl tFld (.tmp 28) (.tmp 31) rfl rfl sb HO3.out rfl rfl HS3.out (stFl_all _) (by omega) (by omega) (by omega) ?_)
  intro v4 W8 hown hgrow
  have hk4 : Kp (fun b => (Value.slice ra (36 + (tags.length + 1)) rcap).ownBlock = some b) W7 W8 := (Kp.refl _ W7).grown hgrow (fun b hb => .inl hb)
  have hnsb := own_ne_blk HO3.out HB3.out (by decide)
  have HB2 := Lib.hid (HB3.out.kp hk4 hnsb)
  have HK2 : Hid (Kp none' w W8) := HK3.out.then hk4 (fun i hi hb => by have := (own_block HO3.out hb).1; omega)
  obtain ⟨L4, hL4⟩ : ∃ L4 : List Fd, L3 ++ nsF bounds = L4 := ⟨_, rfl⟩
  replace hown : W8.ownsRow sb 59 3 v4 (36 + (tags.length + 1) + (bounds.length + 1)) (stFl L4) := by rw [← hL4, stFl_app]; exact hown
  obtain ⟨ra, rcap, rfl⟩ := own_shape hown
  have HL4 := Lib.hid hL4
  have HO := Lib.hid hown
  clear hown hgrow hk4 hnsb hL4 HB3 HK3 HO3 HS3
  clear hsz3
  have c := HB2.out.cell 37 H37.out
  obtain ⟨qa, qc, rfl⟩ : ∃ qa qc, vq = .slice qa qs.length qc := by obtain ⟨_, _, qa, qc, rfl, _⟩ := HQ.out; exact ⟨_, _, rfl⟩
  have hql := hl.2.2
  go_wp2_with fail
  refine (HN.out qs.length W8).mono ?_
  rintro e W9 ⟨rfl, k1⟩
  have HO3 := Lib.hid (own_kp (S := none') HO.out k1 (fun _ _ h => h))
  have HB3 := Lib.hid (HB2.out.kp k1 id); have HK3 := Lib.hid (HK2.out.trans k1)
  have hsz3 := HK3.out.size
  have hbn := hl.2.1; have htn := hl.1
  clear k1 c HB2 HK2 HO
  go_wp2_with (at_builtin; refine wp_app1 tFld (.tmp 33) (.tmp 39) rfl rfl sb (HO3.out.alloc _) [.int .i64 5, .int .u64 qs.length, .string ⟨#[]⟩] rfl rfl rfl (heap_at _ _ _ (by simp)) rfl (by omega) (by omega) (by simp; omega) ?_)
  intro g2 cap2 W10 hown hgrow
  have hk4 : Kp (fun b => (Value.slice ra (36 + (tags.length + 1) + (bounds.length + 1)) rcap).ownBlock = some b) W9 W10 := ((Kp.refl _ W9).alloc (.cells #[.int .i64 5, .int .u64 qs.length, .string ⟨#[]⟩] 59)).grown hgrow (fun b hb => .inl hb)
  have HBA := Lib.hid (HB3.out.kp hk4 (own_ne_blk HO3.out HB3.out (by decide)))
  have HKA : Hid (Kp none' w W10) := HK3.out.then hk4 (fun i hi hb => by have := (own_block HO3.out hb).1; omega)
  obtain ⟨L5, hL5⟩ : ∃ L5 : List Fd, L4 ++ [.var qs.length] = L5 := ⟨_, rfl⟩
  replace hown : W10.ownsRow sb 59 3 (.slice (some ⟨g2, 0, none⟩) ((36 + (tags.length + 1) + (bounds.length + 1)) + 1) cap2) ((36 + (tags.length + 1) + (bounds.length + 1)) + 1) (stFl L5) := by rw [← hL5, stFl_app]; exact hown
  have HL5 := Lib.hid hL5
  have HOA := Lib.hid hown
  have c := HBA.out.cell 37 H37.out
  clear hown hgrow hk4 hL5 HB3 HK3 HO3
  have htot : (36 + (tags.length + 1) + (bounds.length + 1)) + 1 + (qs.flatMap quF).length ≤ 100000 := HTOT.out
  go_wp2_with fail
  go_loopw [3, 44] (fun r i wr => ∃ (j n : Nat), i = .int .i64 j ∧ j ≤ qs.length ∧ n + ((qs.drop j).flatMap quF).length = (36 + (tags.length + 1) + (bounds.length + 1)) + 1 + (qs.flatMap quF).length ∧ Hid (wr.ownsRow sb 59 3 r n (stFl (L5 ++ (qs.take j).flatMap quF)) ∧ Kp none' w wr)) (fun _ i _ => qs.length - (intOf i).toNat)
  case atStart => exact ⟨0, _, rfl, by omega, by rw [List.drop_zero], by have := HOA.out; simpa using this, HKA.out⟩
  case round =>
    obtain ⟨j, n, rfl, hj, hnn, hr⟩ := hrel
    obtain ⟨wo, hwo⟩ : ∃ wo : World, wo = wr := ⟨_, rfl⟩
    subst hwo
    obtain ⟨p1, p2⟩ := hr.out
    obtain ⟨ro, rcap1, rfl⟩ := own_shape p1
    have P1 := Lib.hid p1; have P2 := Lib.hid p2
    have hszo := p2.size
    by_cases hlt : j < qs.length
    · obtain ⟨Q, hQ⟩ : ∃ Q, qs[j] = Q := ⟨_, rfl⟩
      have hTk : qs.take (j + 1) = qs.take j ++ [Q] := by rw [List.take_succ_eq_append_getElem hlt, hQ]
      have hd : qs.drop j = Q :: qs.drop (j + 1) := by rw [← hQ]; exact List.drop_eq_getElem_cons hlt
      have hoQ : ∀ x ∈ Q, x.ok := by rw [← hQ]; exact o8 _ (List.getElem_mem hlt)
      obtain ⟨v, hv, hsv⟩ := HQS.out.at j hlt
      rw [hQ] at hsv
      obtain ⟨M, hM⟩ : ∃ M, ((qs.drop (j + 1)).flatMap quF).length = M := ⟨_, rfl⟩
      have hq4 := quF_len Q
      rw [hd, List.flatMap_cons, List.length_append, hM] at hnn
      obtain ⟨ao, cap', e1, hc⟩ := (HQ.out.old p2).is
      injection e1 with e1 _ e3
      subst e1 e3
      obtain ⟨g, off, rfl, c0⟩ := hc j v hv
      obtain ⟨sa, sc, rfl⟩ : ∃ sa sc, v = .slice sa Q.length sc := by obtain ⟨_, _, sa, sc, rfl, _⟩ := hsv; exact ⟨_, _, rfl⟩
      have hM2 := Lib.hid hM; have HSV := Lib.hid hsv; have HTk := Lib.hid hTk; have HOQ := Lib.hid hoQ
      have hQl : Q.length ≤ 100000 := by omega
      clear p1 p2 hr hc hd hQ hTk hoQ hv hsv hM
      have hnn2 : n + 1 + 4 * Q.length + M ≤ 100000 := by omega
      have HNN : Hid (n + 1 + 4 * Q.length + M = (36 + (tags.length + 1) + (bounds.length + 1)) + 1 + (qs.flatMap quF).length) := by show _ = _; omega
      clear hnn hq4
      go_wp2_with fail
      refine (HN.out Q.length wo).mono ?_
      rintro e W11 ⟨rfl, k1⟩
      have O3 := Lib.hid (own_kp (S := none') P1.out k1 (fun _ _ h => h))
      have K3 := Lib.hid (P2.out.trans k1)
      have hsz3 := K3.out.size
      clear k1
      go_wp2_with (at_builtin; refine wp_app1 tFld (.tmp 48) (.tmp 53) rfl rfl sb (O3.out.alloc _) [.int .i64 5, .int .u64 Q.length, .string ⟨#[]⟩] rfl rfl rfl (heap_at _ _ _ (by simp)) rfl (by omega) (by omega) (by simp; omega) ?_)
      intro g3 cap3 W12 hown hgrow
      have hk4 : Kp (fun b => (Value.slice ro n rcap1).ownBlock = some b) W11 W12 := ((Kp.refl _ W11).alloc (.cells #[.int .i64 5, .int .u64 Q.length, .string ⟨#[]⟩] 59)).grown hgrow (fun b hb => .inl hb)
      have K4 : Hid (Kp none' w W12) := K3.out.then hk4 (fun i hi hb => by have := (own_block O3.out hb).1; omega)
      obtain ⟨L6, hL6⟩ : ∃ L6 : List Fd, L5 ++ (qs.take j).flatMap quF ++ [.var Q.length] = L6 := ⟨_, rfl⟩
      replace hown : W12.ownsRow sb 59 3 (.slice (some ⟨g3, 0, none⟩) (n + 1) cap3) (n + 1) (stFl L6) := by rw [← hL6, stFl_app]; exact hown
      have HL6 := Lib.hid hL6
      have O4 := Lib.hid hown
      clear hown hgrow hk4 hL6 O3 K3 P1
      go_wp2_with fail
      go_loopw [3, 57] (fun r i wr => ∃ (k m : Nat), i = .int .i64 k ∧ k ≤ Q.length ∧ m + 4 * (Q.length - k) + M ≤ 100000 ∧ Hid (m + 4 * (Q.length - k) = n + 1 + 4 * Q.length ∧ wr.ownsRow sb 59 3 r m (stFl (L6 ++ (Q.take k).flatMap wtF)) ∧ Kp none' w wr)) (fun _ i _ => Q.length - (intOf i).toNat)
      case atStart => exact ⟨0, _, rfl, by omega, by omega, by omega, by have := O4.out; simpa using this, K4.out⟩
      case round =>
        obtain ⟨k, m, rfl, hk, hmm, hr⟩ := hrel
        obtain ⟨q0, q1, q2⟩ := hr.out
        obtain ⟨so, scap1, rfl⟩ := own_shape q1
        have S0 := Lib.hid q0; have S1 := Lib.hid q1; have S2 := Lib.hid q2
        have hszi := q2.size
        by_cases hlt2 : k < Q.length
        · obtain ⟨x, hx⟩ : ∃ x, Q[k] = x := ⟨_, rfl⟩
          have hTq : Q.take (k + 1) = Q.take k ++ [x] := by rw [List.take_succ_eq_append_getElem hlt2, hx]
          obtain ⟨x1, x2, x3, x4⟩ : x.ok := by rw [← hx]; exact HOQ.out _ (List.getElem_mem hlt2)
          obtain ⟨g5, off5, cap5, e1, hc⟩ := (HSV.out.old q2).at enWt_len (by decide) k hlt2
          injection e1 with e1 _ e3
          subst e1 e3
          rw [hx] at hc
          have b0 := hc 0 _ rfl; have b1 := hc 1 _ rfl; have b2 := hc 2 _ rfl; have b3 := hc 3 _ rfl
          simp only [Nat.add_zero] at b0
          have HTq := Lib.hid hTq
          obtain ⟨xr, xf, xi, xl⟩ := x
          simp only at *
          clear q0 q1 q2 hr hc hTq hx
          go_upto_region 13 with fail
          have X0 := Lib.hid (Blk.new wr [.int .u64 xr, .int .u32 xf, .int .u32 xi, .int .u64 xl] 73)
          have Y1 := Lib.hid (S1.out.alloc (.cells #[.int .u64 xr, .int .u32 xf, .int .u32 xi, .int .u64 xl] 73))
          have Y2 := Lib.hid (S2.out.alloc (.cells #[.int .u64 xr, .int .u32 xf, .int .u32 xi, .int .u64 xl] 73))
          obtain ⟨xb, hxb⟩ : ∃ xb, wr.heap.size = xb := ⟨_, rfl⟩
          rw [hxb] at X0
          simp only [hxb]
          generalize wr.alloc (.cells #[.int .u64 xr, .int .u32 xf, .int .u32 xi, .int .u64 xl] 73) = w3 at *
          have d0 := X0.out.cell 0 rfl; have d1 := X0.out.cell 1 rfl; have d2 := X0.out.cell 2 rfl; have d3 := X0.out.cell 3 rfl
          have HW : Hid (∀ (n : Nat), n < 4294967296 → ∀ (W : World), Calls Tryz.prog 56 #[.int .u32 n] W fun e w' => e = .returned (.agg #[.int .i64 3, .int .u64 n, .string ⟨#[]⟩]) ∧ Kp none' W w') := fun n hn W => bWrd n hn W
          clear b0 b1 b2 b3
          refine wp_region_kept2 [0] [1, 2, 3, 4, 5, 6, 7, 8, 9, 10, 11, 12, 13, 14, 15] 16 (by kernel_rfl) (by kernel_rfl) (fun c a d u w h => by cases d <;> exact h) ?_
          simp only [pick, List.getElem?_cons_succ, List.getElem?_cons_zero, List.drop_succ_cons, List.drop_zero]
          repeat (first
            | (refine wpHeads_op (by exact rfl) (by as_aux_lemma => intro W; go_simp; exact rfl) ?_; simp only [Act.put, List.setIfInBounds_toArray, List.set_cons_succ, List.set_cons_zero])
            | (refine wpHeads_off (by exact rfl) ?_; simp only [Act.put, List.setIfInBounds_toArray, List.set_cons_succ, List.set_cons_zero]))
          show wpKL _ _ _ _ _ _
          repeat (first
            | (refine wpKL_op (by exact rfl) (by as_aux_lemma => intro W hK; have e0 := hK.cell d0 (fun x => x); have e1 := hK.cell d1 (fun x => x); have e2 := hK.cell d2 (fun x => x); have e3 := hK.cell d3 (fun x => x); go_simp; exact rfl) ?_; simp only [Act.put, List.setIfInBounds_toArray, List.set_cons_succ, List.set_cons_zero])
            | (refine wpKL_off (by exact rfl) ?_; simp only [Act.put, List.setIfInBounds_toArray, List.set_cons_succ, List.set_cons_zero])
            | (refine wpKL_call (by exact rfl) (by as_aux_lemma => intro W; go_simp; exact ⟨rfl, rfl⟩) (by intro W hK; with_reducible first | exact HN.out xr W | exact HN.out xl W | exact HW.out xf x2 W | exact HW.out xi x3 W) ?_; simp only [Act.put, List.setIfInBounds_toArray, List.set_cons_succ, List.set_cons_zero]))
          show ∀ W, _ → wpList _ _ _ _ _ _
          intro W4 hK4
          have Z1 := Lib.hid (own_kp (S := none') Y1.out hK4 (fun _ _ h => h))
          have Z2 := Lib.hid (Y2.out.trans hK4)
          have hsz4 := Z2.out.size
          clear hK4 Y1 Y2 X0 d0 d1 d2 d3
          go_wp2_with (at_builtin; refine wp_appSl tFld (.tmp 61) (.tmp 77) rfl rfl sb (Z1.out.alloc _) rfl rfl (blkSl (Blk.new W4 [.int .i64 5, .int .u64 xr, .string ⟨#[]⟩, .int .i64 3, .int .u64 xf, .string ⟨#[]⟩, .int .i64 3, .int .u64 xi, .string ⟨#[]⟩, .int .i64 5, .int .u64 xl, .string ⟨#[]⟩] 59) 4 3 rfl (by omega)) rfl (by omega) (by omega) (by simp; omega) ?_)
          intro v6 W6 hown hgrow
          have hk4 : Kp (fun b => (Value.slice so m scap1).ownBlock = some b) W4 W6 := ((Kp.refl _ W4).alloc _).grown hgrow (fun b hb => .inl hb)
          have K6 : Hid (Kp none' w W6) := Z2.out.then hk4 (fun i hi hb => by have := (own_block Z1.out hb).1; omega)
          have O6 : Hid (W6.ownsRow sb 59 3 v6 (m + 4) (stFl (L6 ++ (Q.take (k + 1)).flatMap wtF))) := by
            show World.ownsRow _ _ _ _ _ _ _
            rw [HTq.out, List.flatMap_append, ← List.append_assoc, stFl_app]
            exact hown
          have M6 : Hid (m + 4 + 4 * (Q.length - (k + 1)) = n + 1 + 4 * Q.length) := by have := S0.out; show _ = _; omega
          obtain ⟨sa6, sc6, rfl⟩ := own_shape hown
          clear hown hgrow hk4
          go_wp2_with fail
          go_roundw
          case rel => exact ⟨k + 1, m + 4, by go_num, by omega, by omega, M6.out, O6.out, K6.out⟩
          case measure => simp [intOf]; omega
        · have e : k = Q.length := by omega
          subst e
          rw [List.take_length] at q1
          have T1 : Hid (wr.ownsRow sb 59 3 (.slice so m scap1) m (stFl (L5 ++ (qs.take (j + 1)).flatMap quF))) := by
            show World.ownsRow _ _ _ _ _ _ _
            have e : L5 ++ (qs.take (j + 1)).flatMap quF = L6 ++ Q.flatMap wtF := by
              rw [HTk.out, List.flatMap_append, ← HL6.out]
              simp [quF]
            rw [e]; exact q1
          have T2 := S2
          have TM : Hid (m + M = (36 + (tags.length + 1) + (bounds.length + 1)) + 1 + (qs.flatMap quF).length) := by have := S0.out; have := HNN.out; show _ = _; omega
          clear q0 q1 q2 hr S1
          go_wp2_with fail
          go_roundw
          case rel => exact ⟨j + 1, m, by go_num, by omega, by rw [hM2.out]; exact TM.out, T1.out, T2.out⟩
          case measure => simp [intOf]; omega
    · have e : j = qs.length := by omega
      subst e
      rw [List.take_length] at p1
      have hfin : stF ⟨now, tok, virt, ref, tags, bounds, qs⟩ = L5 ++ qs.flatMap quF := by
        rw [← HL5.out, ← HL4.out, ← HL3.out, ← HL2.out, ← HL1.out]; rfl
      have hlen : n = (stF ⟨now, tok, virt, ref, tags, bounds, qs⟩).length := by
        have := p1.1
        rw [← hfin] at this
        unfold stFl at this
        rw [flat_len enFd 3 enFd_len] at this
        omega
      have T1 : Hid (wo.ownsRow sb 59 3 (.slice ro n rcap1) (stF ⟨now, tok, virt, ref, tags, bounds, qs⟩).length (stFl (stF ⟨now, tok, virt, ref, tags, bounds, qs⟩))) := by
        show World.ownsRow _ _ _ _ _ _ _
        rw [← hlen, hfin]; exact p1
      clear p1 p2 hr hfin hlen P1
      go_wp2_with fail
      go_ret
      exact ⟨_, rfl, by rw [hsb]; exact T1.out, P2.out⟩
end Go.Proofs.YtlaakhfgidjofaaGreatDoor
