/- Walk of layer 26: the state of a shaper of which the backend is a heap in which nothing waits, and that has refused nothing. -/
import Derived.Test.YtlaakhfgidjofaaGreatDoorMSnapNobodyF28
import Derived.Test.YtlaakhfgidjofaaGreatDoorMSnapNobodyF25
import Derived.Test.YtlaakhfgidjofaaGreatDoorMSnapNobodyF21
import Derived.Test.YtlaakhfgidjofaaGreatDoorMSnapNobodyF29
import Derived.Test.YtlaakhfgidjofaaGreatDoorProg
import Derived.Test.YtlaakhfgidjofaaGreatDoorMSnapNobodyF0
import Derived.ProofKit
import Derived.OpenShut
import Derived.Deep.RegionWith
import Derived.Deep.RegionHeld3
import Derived.Great.BuildSlice
import Derived.Test.YtlaakhfgidjofaaGreatDoorMSnapNobodyF24
namespace Go.Proofs.YtlaakhfgidjofaaGreatDoor
set_option linter.unusedVariables false
set_option linter.unusedSimpArgs false
open Go Go.RowKit Go.Shelf
theorem hAll0 {w : World} {F : Nat → Prop} {hb room n : Nat} (h : Hp w F hb room n []) : Calls Tryz.prog 219 #[.pointer (some ⟨hb, 0, none⟩)] w fun e w' => e = .returned (.slice none 0 0) ∧ w = w' := by
  obtain ⟨vc, l, rfl, hm, hr, _⟩ := h
  have hl : l = [] := List.eq_nil_of_length_eq_zero hr.len
  subst hl
  have HL := Lib.hid (hLen w 0 hb vc n room [] hm)
  clear hm hr
  go_enter Tryz.func219, Tryz.ntmps219
  go_wp2_with fail
  refine (HL.out).mono ?_
  rintro e w' ⟨rfl, rfl⟩
  go_wp2_with fail
  go_ret
  exact ⟨rfl, rfl⟩
theorem hLists0 {w : World} {F : Nat → Prop} {hb room n : Nat} (h : Hp w F hb room n []) : Calls Tryz.prog 215 #[.agg #[.pointer (some ⟨hb, 0, none⟩)]] w fun e w' => ∃ b, e = .returned (.slice (some ⟨b, 0, none⟩) 1 1) ∧ w'.cell? ⟨b, 0, none⟩ = some (.slice none 0 0) ∧ Kp none' w w' := by
  have k0 := (Kp.refl none' w).alloc (.cells #[.pointer (some ⟨hb, 0, none⟩)] 178)
  have HA := Lib.hid (hAll0 (h.old k0))
  have HK := Lib.hid k0
  clear h k0
  go_enter Tryz.func215, Tryz.ntmps215
  go_wp2_with fail
  refine (HA.out).mono ?_
  rintro e w' ⟨rfl, rfl⟩
  go_wp2_with fail
  go_ret
  refine ⟨_, rfl, ?_, HK.out.alloc _⟩
  have := (Blk.new (w.alloc (.cells #[.pointer (some ⟨hb, 0, none⟩)] 178)) [.slice none 0 0] 171).cell 0 rfl
  rw [World.size_alloc] at this
  exact this
theorem mListsH (x : Value) (W : World) : (method 488 178 x "pacemaker/shaper.lists").run Tryz.prog W = .ok (215, x) W := by kernel_rfl
theorem asQu (b : Nat) (W : World) : (Instr.typeAssert (hpV b) 90 167 true).run Tryz.prog W = .ok (.tuple #[.agg #[.pointer none], .bool false]) W := by kernel_rfl
theorem neNilB (b : Nat) (W : World) : (binOp .eql 90 (hpV b) .nilIface).run Tryz.prog W = .ok (.bool false) W := by kernel_rfl
theorem built_at {w0 : World} {o : Oper} {a : Act} {v : Value} {t : TypeId} {parts : Array (Nat × Operand)} (ho : o.op = .build t parts) (h : ∀ W, (Instr.build t (parts.map fun (i, x) => (i, a.eval x))).run Tryz.prog W = .ok v W) : ∀ W, Kp none' w0 W → (execOp a.eval o).run Tryz.prog W = .ok (.value v) W := fun W _ => by
  unfold execOp
  simp only [ho, Sem.run_bind, h W, Result.andThen_ok, Sem.run_pure]
theorem stBuild0 (now tok virt n c : Nat) (p : Option Addr) (W : World) : (Instr.build 30 #[(0, .int .u64 now), (1, .int .u64 tok), (2, .int .u64 virt), (3, .agg (List.replicate 32 (.int .u64 0)).toArray), (4, .slice p n c)]).run Tryz.prog W = .ok (.agg (stC now tok virt (List.replicate 32 0) (.slice p n c) (.slice none 0 0) (.slice none 0 0)).toArray) W := run_build _ _ _ _ (by kernel_rfl)
theorem infoA32s : (Tryz.prog.info? 26).map (·.size) = some 32 := by kernel_rfl
set_option maxRecDepth 100000 in
set_option maxHeartbeats 4000000 in
theorem aState0 {w : World} {f : ShF} {s : Sh} (h : ShM w f s) (n : Nat) (hbk : s.bk = .hp n []) (href : s.ref = List.replicate 32 0) :
    Calls Tryz.prog 33 #[.pointer (some ⟨f.sb, 0, none⟩)] w fun e w' => ∃ vt vq, e = .returned (.agg (stC s.now s.tok s.r.virt (List.replicate 32 0) vt (.slice none 0 0) vq).toArray) ∧ w'.ownsRow w.heap.size 22 1 vt s.r.tags.length (n8s s.r.tags) ∧ w'.ownsRow w.heap.size 47 1 vq 1 [.slice none 0 0] ∧ Kp none' w w' := by
  have hB := h.top
  have hbk' := h.back
  rw [hbk] at hbk'
  obtain ⟨hb, hfv, hp⟩ := hbk'
  have HT := Lib.hid (fun W (k : Kp none' w W) => kTags (h.ranks.old k))
  have HV := Lib.hid (fun W (k : Kp none' w W) => kVirt (h.ranks.old k))
  have HL := Lib.hid (fun W (k : Kp none' w W) => hLists0 (hp.old k))
  unfold shC at hB
  rw [href, hfv] at hB
  have HB := Lib.hid hB
  have hlt := hB.lt
  have hrt := h.ranks.ok
  have htl : s.r.tags.length ≤ 64 := by have := hrt.len; have := hrt.few; omega
  clear h hB hbk hp href hfv hrt
  generalize s.now = now at *
  generalize s.tok = tok at *
  generalize s.rate = rate at *
  generalize s.burst = burst at *
  generalize f.sb = sb at *
  generalize f.gb = gb at *
  generalize f.rb = rb at *
  generalize s.r.virt = virt at *
  generalize s.r.tags = tags at *
  refine calls_post ?_
  intro PP HP
  have c0 := HB.out.cell 1 rfl
  have c1 := HB.out.cell 4 rfl
  have c3 := HB.out.cell 5 rfl
  have c4 := HB.out.cell 6 rfl
  have hq := neNilB hb
  unfold hpV at c3 hq
  go_enter Tryz.func33, Tryz.ntmps33
  go_upto_region 3 with fail
  have HLD : Hid (∀ W, Kp none' w W → (Instr.loadAt 26 (.pointer (some ⟨sb, 7, none⟩))).run Tryz.prog W = .ok (.agg (List.replicate 32 (.int .u64 0)).toArray) W) := fun W hK => run_loadAt_mid W sb 7 26 (List.replicate 32 (.int .u64 0)) _ (fun j v hv => hK.cell (HB.out.cell (7 + j) (by rw [Nat.add_comm 7 j]; exact hv)) (fun x => x)) Tryz.underlying26 rfl infoA32s
  have HZ : Hid (Blk (w.alloc (.cells (stC 0 0 0 (List.replicate 32 0) (.slice none 0 0) (.slice none 0 0) (.slice none 0 0)).toArray 30)) w.heap.size (stC 0 0 0 (List.replicate 32 0) (.slice none 0 0) (.slice none 0 0) (.slice none 0 0)) 30) := Blk.new w _ _
  have HK1 : Hid (Kp none' w (w.alloc (.cells (stC 0 0 0 (List.replicate 32 0) (.slice none 0 0) (.slice none 0 0) (.slice none 0 0)).toArray 30))) := (Kp.refl none' w).alloc _
  have HBd : Hid (∀ (W : World) (p : Option Addr) (c : Nat), (Instr.build 30 #[(0, .int .u64 now), (1, .int .u64 tok), (2, .int .u64 virt), (3, .agg (List.replicate 32 (.int .u64 0)).toArray), (4, .slice p tags.length c)]).run Tryz.prog W = .ok (.agg (stC now tok virt (List.replicate 32 0) (.slice p tags.length c) (.slice none 0 0) (.slice none 0 0)).toArray) W) := fun W p c => stBuild0 now tok virt tags.length c p W
  obtain ⟨SV, hSV⟩ : ∃ SV : Option Addr → Nat → Value, SV = fun p c => .agg (stC now tok virt (List.replicate 32 0) (.slice p tags.length c) (.slice none 0 0) (.slice none 0 0)).toArray := ⟨_, rfl⟩
  obtain ⟨Z3, hZ3⟩ : ∃ Z3 : Value, Z3 = .agg (List.replicate 32 (.int .u64 0)).toArray := ⟨_, rfl⟩
  have HBd2 : Hid (∀ (W : World) (p : Option Addr) (c : Nat), (Instr.build 30 #[(0, .int .u64 now), (1, .int .u64 tok), (2, .int .u64 virt), (3, Z3), (4, .slice p tags.length c)]).run Tryz.prog W = .ok (SV p c) W) := by rw [hZ3, hSV]; exact HBd
  have HLD2 : Hid (∀ W, Kp none' w W → (Instr.loadAt 26 (.pointer (some ⟨sb, 7, none⟩))).run Tryz.prog W = .ok Z3 W) := by rw [hZ3]; exact HLD
  clear HBd HLD
  refine wp_region_keptM (fun | 13 => some (constR (.int .u64 virt)) | 22 => some (rowR w.heap.size 22 1 tags.length (n8s tags)) | 24 => some (allocR (w.heap.size + 1) (stC 0 0 0 (List.replicate 32 0) (.slice none 0 0) (.slice none 0 0) (.slice none 0 0)) 30) | _ => none) [0, 1, 2, 3, 4, 5, 6, 7, 8, 9, 10, 11, 12, 13, 14, 15, 16, 17, 18, 19, 20, 21, 22, 23, 24] 25 (by kernel_rfl) (by kernel_rfl) ?_
  simp only [pickM, List.getElem?_cons_succ, List.getElem?_cons_zero, List.drop_succ_cons, List.drop_zero]
  clear hZ3
  repeat (first
    | (refine wpML_op (by exact rfl) (by as_aux_lemma => intro W hK; have e0 := (HK1.out.trans hK).cell c0 (fun x => x); have e1 := (HK1.out.trans hK).cell c1 (fun x => x); have e4 := (HK1.out.trans hK).cell c4 (fun x => x); go_simp; exact rfl) ?_; simp only [Act.put, List.setIfInBounds_toArray, List.set_cons_succ, List.set_cons_zero])
    | (refine wpML_op (by exact rfl) (load_at rfl rfl (fun W hK => HLD2.out W (HK1.out.trans hK))) ?_; simp only [Act.put, List.setIfInBounds_toArray, List.set_cons_succ, List.set_cons_zero])
    | (refine wpML_const (by exact rfl) (by as_aux_lemma => intro W; go_simp <;> exact ⟨rfl, rfl⟩) (fun W hK => HV.out W (HK1.out.trans hK)) ?_; simp only [Act.put, List.setIfInBounds_toArray, List.set_cons_succ, List.set_cons_zero])
    | (refine wpML_row (by exact rfl) (by as_aux_lemma => intro W; go_simp <;> exact ⟨rfl, rfl⟩) (fun W hK => (HT.out W (HK1.out.trans hK)).mono fun e w' ⟨v, h1, h2, h3⟩ => ⟨_, h1, own_base h2 (HK1.out.trans hK).size, h3⟩) ?_; intro ta tc; simp only [Act.put, List.setIfInBounds_toArray, List.set_cons_succ, List.set_cons_zero]))
  rename_i ta tc
  refine wpML_op (v := SV ta tc) (by exact rfl) (built_at (parts := #[(0, .tmp 24), (1, .tmp 29), (2, .tmp 34), (3, .tmp 38), (4, .tmp 43)]) rfl (fun W => by simp only [List.map_toArray, List.map_cons, List.map_nil]; exact HBd2.out W ta tc)) ?_
  simp only [Act.put, List.setIfInBounds_toArray, List.set_cons_succ, List.set_cons_zero]
  refine wpML_alloc (by exact rfl) (by rw [World.size_alloc]; exact Nat.le_refl _) (fun W => by kernel_rfl) ?_
  intro bs
  simp only [Act.put, List.setIfInBounds_toArray, List.set_cons_succ, List.set_cons_zero]
  show ∀ W, _ → _ → wpList _ _ _ _ _ _
  intro W3 hK3 hA3
  obtain ⟨⟨_, ht3⟩, b3, e3, hs3, hb3⟩ := hA3
  obtain rfl : bs = b3 := by simpa using e3
  subst hSV
  have k3 := HK1.out.trans hK3
  have HB3 := Lib.hid (HB.out.kp k3 (fun x => x))
  have HZ3 := Lib.hid (HZ.out.kp hK3 (fun x => x))
  have HT3 := Lib.hid ht3
  have HS3 := Lib.hid hs3
  have HD3 := Lib.hid hb3
  have HK3 := Lib.hid k3
  have hi : Hid ((Tryz.prog.info? 30).map (·.size) = some (stC now tok virt (List.replicate 32 0) (.slice ta tags.length tc) (.slice none 0 0) (.slice none 0 0)).length) := by show _ = _; rw [stC_len _ _ _ _ (by simp)]; exact infoSt
  have ho : Hid ((stC 0 0 0 (List.replicate 32 0) (.slice none 0 0) (.slice none 0 0) (.slice none 0 0)).length = (stC now tok virt (List.replicate 32 0) (.slice ta tags.length tc) (.slice none 0 0) (.slice none 0 0)).length) := by show _ = _; rw [stC_len _ _ _ _ (by simp), stC_len _ _ _ _ (by simp)]
  clear ht3 hs3 hb3 k3 hK3 e3 HT HV HB HZ HK1 HLD2 HBd2 c0 c1 c3 c4
  refine wp_set_row rfl 30 (.tmp 3) (.tmp 44) rfl HD3.out (stC now tok virt (List.replicate 32 0) (.slice ta tags.length tc) (.slice none 0 0) (.slice none 0 0)) rfl rfl hi.out ho.out (stOne _ _ _ _ rfl rfl rfl) ?_
  intro W4 hb4 hot4 hK4
  have k4 : Kp (fun b => b = bs) W3 W4 := hK4 _ _ (Kp.refl _ _) (.inl rfl)
  have HB4 := Lib.hid (HB3.out.kp k4 (fun e => by have := HS3.out; omega))
  have HT4 := Lib.hid (own_kp HT3.out k4 (fun b hb e => own_ne_blk HT3.out HD3.out (by decide) (e ▸ hb)))
  have HD4 := Lib.hid hb4
  have HK4 := Lib.hid (HK3.out.then k4 (fun i hi e => by have := HS3.out; omega))
  have HKx := Lib.hid k4
  clear hb4 hot4 hK4 k4 HB3 HT3 HD3 HK3
  have c3 := HB4.out.cell 5 rfl
  have hlt4 := HB4.out.lt
  have ha := asQu hb
  have hm := mListsH (.agg #[.pointer (some ⟨hb, 0, none⟩)])
  unfold hpV at c3 ha
  go_wp2_with fail
  have hkb : Kp none' W4 (W4.alloc (.cells #[.pointer none] 167)) := (Kp.refl none' W4).alloc _
  refine (HL.out _ (HK4.out.trans hkb)).mono ?_
  rintro e w5 ⟨b5, rfl, hc5, k5⟩
  have k5' := hkb.trans k5
  have HB5 := Lib.hid (HB4.out.kp k5' (fun x => x))
  have HT5 := Lib.hid (own_kp HT4.out k5' (fun _ _ x => x))
  have HD5 := Lib.hid (HD4.out.kp k5' (fun x => x))
  have HZ5 := Lib.hid ((HZ3.out.kp (HKx.out) (fun e => by have := HS3.out; omega)).kp k5' (fun x => x))
  have HK5 := Lib.hid (HK4.out.trans k5')
  clear HB4 HT4 HD4 HZ3 HK4 hkb k5 k5' hq ha hm hlt4 c3 HL HKx
  go_wp2_with fail
  refine wp_loop_rounds 2 ?_
  rw [rounds_succ]
  have hq37 : w5.cell? ⟨bs, 37, none⟩ = some (.slice none 0 0) := HD5.out.cell 37 (st_37 _ _ _ _ (by simp) _ _ _)
  go_wp2_with fail
  refine wp_loop_rounds 1 ?_
  rw [rounds_succ]
  go_wp2_with (at_builtin; refine wp_app1 tQs (.tmp 84) (.tmp 86) rfl rfl w5.heap.size (World.ownsRow_nil _ _ _ _) [.slice none 0 0] rfl rfl rfl (heap_at _ _ _ (by simp)) rfl (by omega) (by omega) (by simp) ?_)
  intro g2 cap2 W6 hown hgrow
  have hk : Kp none' w5 W6 := ((Kp.refl _ w5).alloc (.cells #[.slice none 0 0] 47)).grown hgrow (fun b hb => by cases hb)
  have HD6 := Lib.hid (HD5.out.kp hk (fun x => x))
  have HT6 := Lib.hid (own_kp HT5.out hk (fun _ _ x => x))
  have HZ6 := Lib.hid (HZ5.out.kp hk (fun x => x))
  have HK6 := Lib.hid (HK5.out.trans hk)
  have HQ6 := Lib.hid hown
  have HN := Lib.hid (own_block hown rfl)
  have hbl := HD5.out.lt
  have f37 := fun j => HD6.out.fz j
  have c37 : W6.cell? ⟨bs, 37, none⟩ = some (.slice none 0 0) := HD6.out.cell 37 (st_37 _ _ _ _ (by simp) _ _ _)
  clear hown hgrow hk HD5 HT5 HZ5 HK5 hq37
  go_wp2_with fail
  have e7 := HD6.out.set 37 (.slice (some ⟨g2, 0, none⟩) 1 cap2)
  rw [st_set37 _ _ _ _ (by simp)] at e7
  have HD7 := Lib.hid e7
  have kc : Kp (fun b => b = bs) W6 (W6.setCell ⟨bs, 37, none⟩ (.slice (some ⟨g2, 0, none⟩) 1 cap2)) := (Kp.refl (fun b => b = bs) W6).set (p := ⟨bs, 37, none⟩) (.inl rfl) _
  have HT7 := Lib.hid (own_kp HT6.out kc (fun b hb e => own_ne_blk HT6.out HD6.out (by decide) (e ▸ hb)))
  have HQ7 : Hid ((W6.setCell ⟨bs, 37, none⟩ (.slice (some ⟨g2, 0, none⟩) 1 cap2)).ownsRow w5.heap.size 47 1 (.slice (some ⟨g2, 0, none⟩) 1 cap2) 1 [.slice none 0 0]) := own_kp HQ6.out kc (fun b hb e => by have := (own_block HQ6.out hb).1; omega)
  have HZ7 := Lib.hid (HZ6.out.kp kc (fun e => by have := HS3.out; omega))
  have HK7 := Lib.hid (HK6.out.then kc (fun i hi e => by have := HS3.out; omega))
  have hi2 : Hid ((Tryz.prog.info? 30).map (·.size) = some (stC now tok virt (List.replicate 32 0) (.slice ta tags.length tc) (.slice none 0 0) (.slice (some ⟨g2, 0, none⟩) 1 cap2)).length) := by show _ = _; rw [stC_len _ _ _ _ (by simp)]; exact infoSt
  have ho2 : Hid ((stC 0 0 0 (List.replicate 32 0) (.slice none 0 0) (.slice none 0 0) (.slice none 0 0)).length = (stC now tok virt (List.replicate 32 0) (.slice ta tags.length tc) (.slice none 0 0) (.slice (some ⟨g2, 0, none⟩) 1 cap2)).length) := by show _ = _; rw [stC_len _ _ _ _ (by simp), stC_len _ _ _ _ (by simp)]
  have hsz5 : w.heap.size ≤ w5.heap.size := by have := HS3.out; omega
  clear e7 kc HD6 HT6 HQ6 HZ6 HK6 HN f37 c37 hi ho
  rw [rounds_succ]
  generalize W6.setCell ⟨bs, 37, none⟩ (.slice (some ⟨g2, 0, none⟩) 1 cap2) = W7 at *
  go_wp2_with (first
    | (refine wp_get_row rfl 30 (.tmp 3) rfl HD7.out _ rfl Tryz.underlying30 rfl hi2.out ?_)
    | (refine wp_set_row rfl 30 (.tmp 2) (.tmp 90) rfl HZ7.out (stC now tok virt (List.replicate 32 0) (.slice ta tags.length tc) (.slice none 0 0) (.slice (some ⟨g2, 0, none⟩) 1 cap2)) rfl rfl hi2.out ho2.out (stOne _ _ _ _ rfl rfl rfl) ?_))
  intro W8 hb8 hot8 hK8
  have k8 : Kp (fun b => b = w.heap.size) W7 W8 := hK8 _ _ (Kp.refl _ _) (.inl rfl)
  have ht8 := own_kp HT7.out k8 (fun b hb e => own_ne_blk HT7.out HZ7.out (by decide) (e ▸ hb))
  have hq8 := own_base (own_kp HQ7.out k8 (fun b hb e => own_ne_blk HQ7.out HZ7.out (by decide) (e ▸ hb))) hsz5
  have hk8 := HK7.out.then k8 (fun i hi e => by omega)
  have Z0 := Lib.hid hb8; have Z1 := Lib.hid ht8; have Z2 := Lib.hid hq8; have Z3 := Lib.hid hk8
  clear hb8 hot8 hK8 k8 ht8 hq8 hk8
  go_wp2_with fail
  exact ret_row rfl Z0.out _ Tryz.underlying30 rfl hi2.out rfl (HP.out _ _ ⟨_, _, rfl, Z1.out, Z2.out, Z3.out⟩)

theorem QS.one {w : World} {vs : List Value} (h : QS w vs [[]]) : ∃ p c, vs = [.slice p 0 c] := by
  match vs, h with
  | [v], h =>
    obtain ⟨_, _, p, c, rfl, _⟩ := h.1
    exact ⟨p, c, rfl⟩
theorem tLi : SlT Tryz.prog 169 171 (.slice none 0 0) 1 24 := ⟨Tryz.underlying169, by kernel_rfl, rfl, by decide⟩
set_option maxRecDepth 100000 in
set_option maxHeartbeats 4000000 in
theorem aWait0 {w : World} {sb hb : Nat} {cs : List Value} (h : Blk w sb cs 97) (h5 : cs[5]? = some (hpV hb)) (s : StS) (hq : s.qs = [[]]) (vt vb vq : Value) (vs : List Value) (hm : StM w s vt vb vq vs) (ol : s.ref.length = 32) :
    Calls Tryz.prog 41 #[.pointer (some ⟨sb, 0, none⟩), .agg (stC s.now s.tok s.virt s.ref vt vb vq).toArray] w fun e w' => e = .returned (.tuple #[]) ∧ Kp none' w w' := by
  have HQ := hm.q; have HQS := hm.qs
  rw [hq] at HQ HQS
  obtain ⟨qp, qc, rfl⟩ := QS.one HQS
  replace HQ : Sl w vq 1 1 [.slice qp 0 qc] := HQ
  obtain ⟨ap, vc, rfl, hcq⟩ := HQ.is
  obtain ⟨qb, qo, rfl, hq0⟩ := hcq 0 _ rfl
  have hk0 := (Kp.refl none' w).alloc (.cells (stC s.now s.tok s.virt s.ref vt vb (.slice (some ⟨qb, qo, none⟩) 1 vc)).toArray 30)
  obtain ⟨cs', hcs⟩ : ∃ cs', stC s.now s.tok s.virt s.ref vt vb (.slice (some ⟨qb, qo, none⟩) 1 vc) = cs' := ⟨_, rfl⟩
  have h37 : cs'[37]? = some (.slice (some ⟨qb, qo, none⟩) 1 vc) := by rw [← hcs]; exact st_37 _ _ _ _ ol _ _ _
  rw [hcs] at hk0 ⊢
  have HB := Lib.hid (Blk.new w cs' 30)
  have HK := Lib.hid hk0
  have c5 := hk0.cell (h.cell 5 h5) (fun x => x)
  have q0 := hk0.cell hq0 (fun x => x)
  rw [Nat.add_zero] at q0
  have b37 := HB.out.cell 37 h37
  have hlt := (h.kp hk0 (fun x => x)).lt
  have ha := asQu hb
  unfold hpV at c5 ha
  clear hq HQS HQ h h5 hcq hq0 hm hcs h37 hk0 HB
  go_enter Tryz.func41, Tryz.ntmps41
  go_upto_region 1 with fail
  generalize w.alloc (.cells cs'.toArray 30) = w0 at *
  generalize w.heap.size = bs at *
  go_wp2_with fail
  refine wp_loop_rounds 2 ?_
  rw [rounds_succ]
  go_wp2_with fail
  refine wp_loop_rounds 1 ?_
  rw [rounds_succ]
  go_wp2_with (at_builtin; refine wp_app1 tLi (.tmp 36) (.tmp 38) rfl rfl w0.heap.size (World.ownsRow_nil _ _ _ _) [.slice none 0 0] rfl rfl rfl (heap_at _ _ _ (by simp)) rfl (by omega) (by omega) (by simp) ?_)
  intro g2 cap2 W2 hown hgrow
  have hk : Kp none' w0 W2 := ((Kp.refl _ w0).alloc (.cells #[.slice none 0 0] 171)).grown hgrow (fun b hb => by cases hb)
  have g5 := hk.cell c5 (fun x => x)
  have g0 : W2.cell? ⟨g2, 0, none⟩ = some (.slice none 0 0) := own_cell (base := w0.heap.size) hown 0 rfl
  have HK2 := Lib.hid (HK.out.trans hk)
  clear hown hgrow hk c5 q0 b37 HK hlt
  go_wp2_with fail
  rw [rounds_succ]
  go_wp2_with fail
  refine wp_loop_rounds 1 ?_
  rw [rounds_succ]
  go_wp2_with fail
  go_end0
  exact ⟨rfl, HK2.out⟩

set_option maxRecDepth 100000
end Go.Proofs.YtlaakhfgidjofaaGreatDoor

namespace Go.Proofs.YtlaakhfgidjofaaGreatDoor
set_option linter.unusedVariables false
set_option linter.unusedSimpArgs false
open Go.ChangeShapes Go.WideShapes Go.ChangeAt Go.RowKit
structure OpR where
  kind : Int
  flow : Nat
  id : Nat
  len : Nat
  ticks : Nat
structure OpR.ok (o : OpR) : Prop where
  kind : -9223372036854775808 ≤ o.kind ∧ o.kind ≤ 9223372036854775807
  flow : o.flow < 4294967296
  id : o.id < 4294967296
  len : o.len < 18446744073709551616
  ticks : o.ticks < 18446744073709551616
instance : Inhabited OpR := ⟨⟨0, 0, 0, 0, 0⟩⟩
theorem OpR.ext_iff' (o p : OpR) : (o.kind = p.kind ∧ o.flow = p.flow ∧ o.id = p.id ∧ o.len = p.len ∧ o.ticks = p.ticks) ↔ o = p := by
  obtain ⟨a, b, c, d, e⟩ := o
  obtain ⟨a', b', c', d', e'⟩ := p
  simp only [OpR.mk.injEq]
instance : DecidableEq OpR := fun o p => decidable_of_iff _ (OpR.ext_iff' o p)
section
variable {H : Type} {enc : TypeId × Value → H} {w : World} {base : Nat} {spare : Nat → Bool} {held : Bool}
end
end Go.Proofs.YtlaakhfgidjofaaGreatDoor

namespace Go.Proofs.YtlaakhfgidjofaaGreatDoor
set_option linter.unusedVariables false
set_option linter.unusedSimpArgs false
open Go Go.RowKit Go.Shelf

abbrev ShTo (w : World) (f : ShF) (s' : Sh) (w' : World) : Prop := ∃ f', ShM w' f' s' ∧ Kp f.all w w' ∧ Nw w f.all f'.all ∧ f'.sb = f.sb





theorem ShTo.wrap {w W2 W3 W4 : World} {f : ShF} {s' : Sh} (hl : ∀ z, f.all z → z < w.heap.size) (k02 : Kp none' w W2) (hto : ShTo W2 f s' W3) (k34 : Kp (fun z => w.heap.size ≤ z ∧ z < W2.heap.size) W3 W4) : ShTo w f s' W4 := by
  obtain ⟨f', hm, hk, hn, hs⟩ := hto
  have hz := k02.size
  refine ⟨f', hm.kp k34 (fun z hz' h => by rcases hn z hz' with h1 | h1; (have := hl z h1; omega); omega), ?_, fun z hz' => ?_, hs⟩
  · exact ((k02.mono (fun _ _ x => x.elim)).trans hk).then k34 (fun z hz' h => by omega)
  · rcases hn z hz' with h1 | h1
    · exact .inl h1
    · exact .inr (by omega)




def flows2 : List FlR := [⟨1, 1, 10, 0, 50⟩, ⟨2, 1, 20, 0, 50⟩]
def cSome (b : Int) : CfR := ⟨2, b, 1, 2, 9, 100, 0, 10, 1, 10, flows2⟩
theorem cSome_ok {b : Int} (h : 1 ≤ b ∧ b ≤ 3) : (cSome b).ok :=
  ⟨by show _ ≤ (2 : Int) ∧ (2 : Int) ≤ _; omega, by show _ ≤ b ∧ b ≤ _; omega, by show _ ≤ (1 : Int) ∧ (1 : Int) ≤ _; omega, by show _ ≤ (2 : Int) ∧ (2 : Int) ≤ _; omega, by show _ ≤ (9 : Int) ∧ (9 : Int) ≤ _; omega, by show 100 < M64; decide, by show _ ≤ (0 : Int) ∧ (0 : Int) ≤ _; omega, by show 10 < M64; decide, by show 1 < M64; decide, by show 10 < M64; decide, fun f hf => by
    have : f = ⟨1, 1, 10, 0, 50⟩ ∨ f = ⟨2, 1, 20, 0, 50⟩ := by simpa [cSome, flows2] using hf
    rcases this with rfl | rfl
    · exact ⟨by decide, by decide, by decide, by decide, by decide⟩
    · exact ⟨by decide, by decide, by decide, by decide, by decide⟩⟩
theorem chk1 : chk (cSome 1) = 0 := by decide
theorem infoCf : (Tryz.prog.info? 25).map (·.size) = some 11 := by kernel_rfl
set_option maxRecDepth 100000 in
set_option maxHeartbeats 2000000 in
theorem someL (w : World) : Calls Tryz.prog 14 #[] w fun e w' => ∃ b, e = .returned (.agg (enC (cSome 1) (.slice (some ⟨b, 0, none⟩) 2 2)).toArray) ∧ Blk w' b (flows2.flatMap enFl) 85 ∧ w.heap.size ≤ b ∧ Kp none' w w' := by
  refine calls_post ?_
  intro PP HP
  have HZ := Lib.hid (Blk.new w [.int .i64 0, .int .i64 0, .int .i64 0, .int .i64 0, .int .i64 0, .int .u64 0, .int .i64 0, .int .u64 0, .int .u64 0, .int .u64 0, .slice none 0 0] 25)
  have HB := Lib.hid (Blk.new (w.alloc (.cells #[.int .i64 0, .int .i64 0, .int .i64 0, .int .i64 0, .int .i64 0, .int .u64 0, .int .i64 0, .int .u64 0, .int .u64 0, .int .u64 0, .slice none 0 0] 25)) [.int .u32 1, .int .u64 1, .int .u64 10, .int .u64 0, .int .u64 50, .int .u32 2, .int .u64 1, .int .u64 20, .int .u64 0, .int .u64 50] 85)
  have e1 : (w.alloc (.cells #[.int .i64 0, .int .i64 0, .int .i64 0, .int .i64 0, .int .i64 0, .int .u64 0, .int .i64 0, .int .u64 0, .int .u64 0, .int .u64 0, .slice none 0 0] 25)).heap.size = w.heap.size + 1 := by simp
  rw [e1] at HB
  have HK := Lib.hid (((Kp.refl none' w).alloc (.cells #[.int .i64 0, .int .i64 0, .int .i64 0, .int .i64 0, .int .i64 0, .int .u64 0, .int .i64 0, .int .u64 0, .int .u64 0, .int .u64 0, .slice none 0 0] 25)).alloc (.cells #[.int .u32 1, .int .u64 1, .int .u64 10, .int .u64 0, .int .u64 50, .int .u32 2, .int .u64 1, .int .u64 20, .int .u64 0, .int .u64 50] 85))
  have HZ1 := Lib.hid (HZ.out.alloc (.cells #[.int .u32 1, .int .u64 1, .int .u64 10, .int .u64 0, .int .u64 50, .int .u32 2, .int .u64 1, .int .u64 20, .int .u64 0, .int .u64 50] 85))
  clear e1
  go_enter Tryz.func14, Tryz.ntmps14
  go_wp2_with (refine wp_store_blk rfl 25 (.tmp 0) (.tmp 4) rfl HZ1.out (enC (cSome 1) (.slice (some ⟨w.heap.size + 1, 0, none⟩) 2 2)) rfl rfl rfl infoCf rfl ?_
               intro W2 hb2 hk2
               have HB2 := Lib.hid hb2
               have HK2 := Lib.hid hk2
               clear hb2 hk2)
  refine ret_blk (by exact rfl) HB2.out _ Tryz.underlying25 rfl infoCf (by exact rfl) (HP.out _ _ ⟨w.heap.size + 1, rfl, HB.out.kp HK2.out (fun e => by omega), by omega, HK.out.then HK2.out (fun z _ e => by omega)⟩)
end Go.Proofs.YtlaakhfgidjofaaGreatDoor
