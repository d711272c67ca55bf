/- Layer 38: Merge; plain law: what is merged is as what was added. -/
import Derived.Test.YtkhipbpjknfloaaHistR
import Derived.Deep.Draws
import Derived.Sort.QuietIn
namespace Go.Proofs.Ytkhipbpjknfloaa
set_option linter.unusedVariables false
set_option linter.unusedSimpArgs false
open Go.RowKit Go.Maps Go.Shelf
theorem satN_assoc (a b c : Nat) : satN (satN a b) c = satN a (satN b c) := by unfold satN; split <;> split <;> split <;> split <;> omega
theorem satN_zl {a : Nat} (h : a < 18446744073709551616) : satN 0 a = a := by unfold satN; rw [if_pos (by omega)]; omega
/-- Rows as what is added. -/
def radds (f : Nat) (m : List Ad) : List Ad := (rowsN f m).map fun r => (r.1, r.2.2)
theorem bk_lo {f b : Nat} (hf : f ≤ 8) (hb : b ≤ bk f 18446744073709551615) : bk f (lo f b) = b := by
  have h1 := (lo_bnd hf hb).2.2
  have h2 := (bk_lt f (lo f b) (b + 1)).2 h1
  have h3 := bk_lt f (lo f b) b
  omega
theorem cnt_app (f : Nat) (l m : List Ad) (b : Nat) : cntN f (l ++ m) b = satN (cntN f l b) (cntN f m b) := by
  induction m using snoc_ind with
  | h0 => rw [List.append_nil]; exact (satN_zero (cnt_lt _ _ _)).symm
  | h1 m e ih =>
    rw [← List.append_assoc, cnt_snoc, cnt_snoc, ih]
    split
    · rw [satN_assoc]
    · rfl
theorem cnt_none (f : Nat) (l : List Ad) (b : Nat) (h : ∀ e ∈ l, bk f e.1 ≠ b) : cntN f l b = 0 := by
  induction l using snoc_ind with
  | h0 => rfl
  | h1 l e ih => rw [cnt_snoc, if_neg (h e (by simp)), ih (fun x hx => h x (by simp [hx]))]
/-- Over buckets, each once. -/
theorem cnt_rows (f : Nat) (hf : f ≤ 8) (c : Nat → Nat) (hc : ∀ b, c b < 18446744073709551616) (b : Nat) : ∀ ks : List Nat, ks.Nodup → (∀ x ∈ ks, x ≤ bk f 18446744073709551615) → cntN f (ks.map fun x => (lo f x, c x)) b = if b ∈ ks then c b else 0 := by
  intro ks
  induction ks using snoc_ind with
  | h0 => intro _ _; rfl
  | h1 ks x ih =>
    intro hn hk
    rw [List.nodup_append] at hn
    rw [List.map_append, List.map_cons, List.map_nil, cnt_snoc, ih hn.1 (fun y hy => hk y (by simp [hy])), bk_lo hf (hk x (by simp))]
    by_cases hx : x = b
    · subst hx
      have : x ∉ ks := fun h => hn.2.2 x h x (by simp) rfl
      rw [if_pos rfl, if_neg this, if_pos (by simp)]
      exact satN_zl (hc _)
    · rw [if_neg hx]
      have e : (b ∈ ks ++ [x]) ↔ b ∈ ks := by simp; intro h; exact absurd h.symm hx
      simp only [e]
theorem cnt_out {f : Nat} {m : List Ad} {b : Nat} (h : b ∉ ksN f m) : cntN f m b = 0 := by
  induction m using snoc_ind with
  | h0 => rfl
  | h1 m e ih =>
    rw [ks_mem] at h
    have h2 : b ∉ ksN f m := by
      rw [ks_mem]; rintro ⟨x, hx, h3⟩; exact h ⟨x, by simp [hx], h3⟩
    rw [cnt_snoc, ih h2]
    split
    · rename_i he
      have : e.2 = 0 := by
        refine Classical.byContradiction fun hc => h ⟨e, by simp, by omega, he⟩
      rw [this]; rfl
    · rfl
theorem cnt_in {f : Nat} {m : List Ad} {b : Nat} (hm : ∀ e ∈ m, e.2 < 18446744073709551616) (h : b ∈ ksN f m) : 0 < cntN f m b := by
  induction m using snoc_ind with
  | h0 => cases h
  | h1 m e ih =>
    rw [ks_snoc] at h
    have hs : ∀ a c, 0 < c → 0 < satN a c := fun a c hc => by unfold satN; split <;> omega
    have hs2 : ∀ a c, 0 < a → 0 < satN a c := fun a c hc => by unfold satN; split <;> omega
    rw [cnt_snoc]
    split at h
    · rename_i h0
      rcases (ins_mem _ _ _).1 h with rfl | h
      · rw [if_pos rfl]; exact hs _ _ h0
      · have := ih (fun x hx => hm x (by simp [hx])) h
        split
        · exact hs2 _ _ this
        · exact this
    · have := ih (fun x hx => hm x (by simp [hx])) h
      split
      · exact hs2 _ _ this
      · exact this
theorem merged {f : Nat} (hf : f ≤ 8) (l m : List Ad) (hm : ∀ e ∈ m, e.1 < 18446744073709551616 ∧ e.2 < 18446744073709551616) : rowsN f (l ++ radds f m) = rowsN f (l ++ m) := by
  have hb := fun b (h : b ∈ ksN f m) => (ks_bnd hf (fun e he => (hm e he).1) h).1
  have hr : radds f m = (ksN f m).map fun x => (lo f x, cntN f m x) := by unfold radds rowsN; rw [List.map_map]; rfl
  have hnd : (ksN f m).Nodup := (ks_up f m).imp fun h => by omega
  have hcnt : ∀ b, cntN f (l ++ radds f m) b = cntN f (l ++ m) b := fun b => by
    rw [cnt_app, cnt_app, hr, cnt_rows f hf _ (fun b => cnt_lt _ _ _) b _ hnd hb]
    split
    · rfl
    · rename_i h; rw [cnt_out h]
  have hks : ksN f (l ++ radds f m) = ksN f (l ++ m) := by
    refine up_unique _ _ (ks_up _ _) (ks_up _ _) fun b => ?_
    rw [ks_mem, ks_mem]
    have key : (∃ e ∈ radds f m, 0 < e.2 ∧ bk f e.1 = b) ↔ ∃ e ∈ m, 0 < e.2 ∧ bk f e.1 = b := by
      rw [hr]
      constructor
      · rintro ⟨e, he, h1, h2⟩
        obtain ⟨x, hx, rfl⟩ := List.mem_map.1 he
        rw [bk_lo hf (hb x hx)] at h2
        subst h2
        exact (ks_mem f m x).1 hx
      · intro h
        have hx := (ks_mem f m b).2 h
        exact ⟨_, List.mem_map.2 ⟨b, hx, rfl⟩, cnt_in (fun e he => (hm e he).2) hx, bk_lo hf (hb b hx)⟩
    unfold inB
    constructor
    · rintro ⟨e, he, h⟩
      rcases List.mem_append.1 he with h2 | h2
      · exact ⟨e, List.mem_append_left _ h2, h⟩
      · obtain ⟨e', he', h'⟩ := key.1 ⟨e, h2, h⟩
        exact ⟨e', List.mem_append_right _ he', h'⟩
    · rintro ⟨e, he, h⟩
      rcases List.mem_append.1 he with h2 | h2
      · exact ⟨e, List.mem_append_left _ h2, h⟩
      · obtain ⟨e', he', h'⟩ := key.2 ⟨e, h2, h⟩
        exact ⟨e', List.mem_append_right _ he', h'⟩
  unfold rowsN
  rw [hks]
  refine List.map_congr_left fun b _ => ?_
  unfold rowN
  rw [hcnt]

theorem HMem.nx {B0 : Nat} {A B : World} {hb f mb n : Nat} {D : DU} {l : List Ad} (h : HMem A hb f mb n D l) (k : NX B0 A B) (h2 : mb < B0) : HMem B hb f mb n D l := by
  refine ⟨⟨h.top.top.nc k.nc⟩, ?_, h.hs, h.at_, h.few, h.ne⟩
  obtain ⟨es, clock, hb, F, hs', hD⟩ := h.own
  exact ⟨es, clock, (k.low _ h2).trans hb, F, hs', hD⟩
theorem eqlSome (bm : Nat) (w : World) : (binOp .eql 97 (.map (some bm)) (.map none)).run Try.prog w = .ok (.bool false) w := by kernel_rfl
section
attribute [local go_sem] Oper.semAt_some
/-- What Merge's loop keeps. -/
def MgI (bx hb f mb : Nat) (l : List Ad) (pre : List RwN) (F : Nat → Prop) (W : World) : Prop := (∃ n D, HMem W hb f mb n D (l ++ pre.map fun r => (r.1, r.2.2))) ∧ Blk W bx [.pointer (some ⟨hb, 0, none⟩)] 36 ∧ F = fun b => b = mb
set_option maxRecDepth 100000 in
set_option maxHeartbeats 4000000 in
theorem hMerge {w : World} {hb mb n hb2 mb2 n2 f : Nat} {D D2 : DU} {l m : List Ad} (h1 : HMem w hb f mb n D l) (h2 : HMem w hb2 f mb2 n2 D2 m) (hf : f ≤ 8) (hl : l.length ≤ 100000) (hm : m.length ≤ 100000) (hm64 : ∀ e ∈ m, e.1 < 18446744073709551616) (hd1 : hb2 ≠ mb) (hd2 : mb2 ≠ mb) :
    Calls Try.prog 31 #[.pointer (some ⟨hb, 0, none⟩), .pointer (some ⟨hb2, 0, none⟩)] w fun e w' => e = .returned (.int .i64 0) ∧ (∃ n' D', HMem w' hb f mb n' D' (l ++ radds f m)) ∧ Kp (fun b => b = mb) w w' := by
  have l1 := h1.top.top.lt; have l2 := h1.own.lt; have l3 := h2.top.top.lt; have l4 := h2.own.lt
  have k0 := (Kp.refl none' w).alloc (.cells #[.pointer (some ⟨hb, 0, none⟩)] 36)
  have hbx := Blk.new w [.pointer (some ⟨hb, 0, none⟩)] 36
  have a1 := h1.old k0
  have a2 := h2.old k0
  have c0 := a1.top.top.cell 0 rfl
  have c1 := a1.top.top.cell 1 rfl
  have d0 := a2.top.top.cell 0 rfl
  have cb := hbx.cell 0 rfl
  have hnq := eqlSome mb
  have A1 := Lib.hid a1
  have HBX := Lib.hid hbx
  refine (callsIn_wide (n := 0)).1 ?_
  refine callsIn_of_wp_marks Try.func31 rfl trivial ?_ rfl
  simp only [Try.ntmps31, List.size_toArray, List.length_cons, List.length_nil, Nat.reduceAdd, Nat.reduceSub, Array.replicate_succ, Array.replicate_zero, List.push_toArray, List.append_toArray, List.nil_append, List.cons_append]
  clear h1 h2 k0 hbx a1
  gi_wp2
  gi_quiet (fail)
  obtain ⟨w0, hw0⟩ : ∃ w0, (w.alloc (.cells #[.pointer (some ⟨hb, 0, none⟩)] 36)).drewN nq = w0 := ⟨_, rfl⟩
  have kd : Kp none' (w.alloc (.cells #[.pointer (some ⟨hb, 0, none⟩)] 36)) w0 := by rw [← hw0]; exact (Kp.refl _ _).drewN nq
  have hz0 : w0.heap.size = w.heap.size + 1 := by rw [← hw0]; simp
  have HW := Lib.hid (hWalk (a2.old kd) hf (by omega) hm64)
  have B1 := Lib.hid (A1.out.old kd)
  have BX := Lib.hid (HBX.out.kp kd (fun x => x))
  have K0 := Lib.hid (((Kp.refl none' w).alloc (.cells #[.pointer (some ⟨hb, 0, none⟩)] 36)).trans kd)
  have hrl : (rowsN f m).length ≤ 100000 := by unfold rowsN; rw [List.length_map]; exact Nat.le_trans (ks_len f m) hm
  rw [hw0]
  clear a2 A1 HBX kd hw0 c0 c1 d0 cb
  gi_wp2
  refine wp_rangeF (first := #[.pointer (some ⟨hb2, 0, none⟩)]) (captured := #[]) rfl (enters_of Try.func56 (by kernel_rfl) rfl) HW.out (fun _ => rfl)
    (MgI w.heap.size hb f mb l) (fun _ _ _ _ => False) (fun pre F A B ⟨⟨n, D, h1⟩, h2, h3⟩ k => ⟨⟨n, D, h1.nx k (by omega)⟩, h2.nc k.nc, h3⟩) (fun _ _ _ _ _ h _ => h)
    (fun b => b = mb) (by intro b hb; subst hb; omega) (by rintro b (rfl | rfl) <;> (constructor; assumption; omega)) ⟨⟨n, D, by simpa using B1.out⟩, BX.out, rfl⟩
    (fun r a1 W => ∃ p, a1 = { tmps := #[.pointer (some ⟨hb, 0, none⟩), .pointer (some ⟨hb2, 0, none⟩), .pointer (some ⟨w.heap.size, 0, none⟩), undef, .int .i64 0, .pointer (some ⟨p, 0, none⟩), .bool false, .pointer (some ⟨hb, 0, none⟩), .bool false, .bool false, .pointer (some ⟨hb2, 0, none⟩), .bool false, .bool false, .bool false, .pointer (some ⟨hb, 0, none⟩), .pointer (some ⟨hb, 0, none⟩), .pointer (some ⟨hb, 1, none⟩), .map (some mb), .bool false, .bool false, .bool false, .pointer (some ⟨hb, 0, none⟩), .pointer (some ⟨hb, 0, none⟩), .pointer (some ⟨hb, 0, none⟩), .int .i64 f, .pointer (some ⟨hb2, 0, none⟩), .pointer (some ⟨hb2, 0, none⟩), .pointer (some ⟨hb2, 0, none⟩), .int .i64 f, .bool false, .pointer (some ⟨hb2, 0, none⟩), .func (.func 56) #[.pointer (some ⟨hb2, 0, none⟩)] #[], .agg #[.int .u64 r.1, .int .u64 r.2.1, .int .u64 r.2.2], undef, undef, undef, undef, undef, undef], defers := [] } ∧ Blk W p (enRw r) 73)
    (fun r a A B h k => by obtain ⟨p, h1, h2⟩ := h; exact ⟨p, h1, h2.nc k.nc⟩) ?assign ?body ?done (fun _ _ _ _ _ h => h.elim)
  case assign =>
    intro lp r W K hz hK
    gi_wp2
    exact hK _ _ ⟨_, rfl, Blk.new W (enRw r) _⟩ ((Kp.refl _ _).alloc _)
  case body =>
    rintro lp pre F r post a1 W hx ⟨⟨n', D', hm'⟩, hbx, rfl⟩ ⟨p, rfl, hp⟩ hkp hFs
    have hlen : pre.length < 100000 := by
      have := congrArg List.length hx; simp at this; omega
    have hr : r ∈ rowsN f m := by rw [hx]; simp
    have hr1 : r.1 < 18446744073709551616 := by
      unfold rowsN at hr
      obtain ⟨b, hb, rfl⟩ := List.mem_map.1 hr
      exact (lo_bnd hf (ks_bnd hf hm64 hb).1).1
    have q0 := hp.cell 0 rfl
    have q2 := hp.cell 2 rfl
    have cb := hbx.cell 0 rfl
    have HA := Lib.hid (hAddM hb f mb n' r.1 r.2.2 D' (l ++ pre.map fun r => (r.1, r.2.2)) hf hr1 (row_cnt hr) (by simp; omega) W hm')
    have HB := Lib.hid hbx
    clear hm' hbx hp hx hr hFs
    gi_wp2
    refine ⟨trivial, rfl, (CallsIn.inRound lp (callsIn_wide.2 HA.out)).mono ?_⟩
    rintro e w5 ⟨rfl, ⟨n5, D5, hm5⟩, k5⟩
    gi_wp2
    refine ⟨_, ⟨⟨n5, D5, by rw [List.map_append, ← List.append_assoc]; exact hm5⟩, HB.out.kp k5 (fun h => by omega), rfl⟩, k5, fun b h => .inl h, fun b o hb ho _ => (k5.block b (Array.getElem?_eq_some_iff.1 ho).1 (fun h => by omega)).trans ho⟩
  case done =>
    rintro D' F W ⟨⟨n', D5, hm5⟩, _, _⟩ hkp hD hK
    gi_wp2
    refine ⟨by simp, .inl ⟨_, _, rfl, run_takeDeferred hK, ?_⟩⟩
    refine ⟨_, results_tmp rfl _ _ _, rfl, ⟨n', D5, ?_⟩, ?_⟩
    · exact hm5.nx (B0 := w.heap.size) (NX.put _ hK rfl (by omega)) (by omega)
    · exact ((K0.out.mono (T := fun b => b = mb) (fun _ _ x => x.elim)).then hkp (fun _ _ h => h)).put (.inr (by omega)) _
set_option maxRecDepth 100000 in
set_option maxHeartbeats 4000000 in
theorem hMergeNo {w : World} {hb mb n hb2 mb2 n2 f g : Nat} {D D2 : DU} {l m : List Ad} (h1 : HMem w hb f mb n D l) (h2 : HMem w hb2 g mb2 n2 D2 m) (hfg : f ≠ g) :
    Calls Try.prog 31 #[.pointer (some ⟨hb, 0, none⟩), .pointer (some ⟨hb2, 0, none⟩)] w fun e w' => e = .returned (.int .i64 6) ∧ Kp none' w w' := by
  have k0 := (Kp.refl none' w).alloc (.cells #[.pointer (some ⟨hb, 0, none⟩)] 36)
  have hbx := Blk.new w [.pointer (some ⟨hb, 0, none⟩)] 36
  have a1 := h1.old k0
  have a2 := h2.old k0
  have c0 := a1.top.top.cell 0 rfl
  have c1 := a1.top.top.cell 1 rfl
  have d0 := a2.top.top.cell 0 rfl
  have cb := hbx.cell 0 rfl
  have hnq := eqlSome mb
  have hne : ((f : Int) != (g : Int)) = true := by rw [bne_iff_ne]; omega
  have K0 := Lib.hid k0
  clear h1 h2 hbx a1 a2 k0
  go_enter Try.func31, Try.ntmps31
  go_wp2
  go_quiet (fail)
  have K1 := Lib.hid (K0.out.drewN nq)
  go_wp2
  go_ret
  exact ⟨rfl, K1.out⟩
end
end Go.Proofs.Ytkhipbpjknfloaa
