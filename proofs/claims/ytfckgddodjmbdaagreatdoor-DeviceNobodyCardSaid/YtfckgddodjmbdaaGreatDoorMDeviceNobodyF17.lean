/- Ranks (layer 16): Next, Sent. -/
import Derived.Test.YtfckgddodjmbdaaGreatDoorMDeviceNobodyF7
import Derived.Test.YtfckgddodjmbdaaGreatDoorMDeviceNobodyF10
import Derived.Test.YtfckgddodjmbdaaGreatDoorMDeviceNobodyF16
import Derived.Test.YtfckgddodjmbdaaGreatDoorMDeviceNobodyF14
namespace Go.Proofs.YtfckgddodjmbdaaGreatDoor
set_option linter.unusedVariables false
set_option linter.unusedSimpArgs false
open Go Go.RowKit Go.Shelf
def Rk.at (r : Rk) (id : Nat) : Nat := (findF r.fl id).toNat
def Rk.tag (r : Rk) (id : Nat) : Nat := r.tags.getD (r.at id) 0
def Rk.f (r : Rk) (id : Nat) : FlR := r.fl.getD (r.at id) default
def Rk.setTag (r : Rk) (id t : Nat) : Rk := { r with tags := r.tags.set (r.at id) t }
def nextR (r : Rk) (now id n : Nat) : Nat × Rk :=
  if r.kind = 1 then (max r.virt (r.tag id), r.setTag id (satN (max r.virt (r.tag id)) (satM (r.f id).cost n)))
  else if r.kind = 2 then (satN now (r.f id).budget, r) else (r.tag id, r.setTag id (r.tag id - n))
def sentR (r : Rk) (rank : Nat) : Rk := if r.kind = 1 then { r with virt := rank } else r
theorem Rk.Ok.setTag {r : Rk} (h : r.Ok) (id t : Nat) (ht : t < 18446744073709551616) : (r.setTag id t).Ok :=
  ⟨h.kind, by show (r.tags.set _ _).length = _; rw [List.length_set]; exact h.len, h.few, h.fok, fun x hx => by
    rcases List.mem_or_eq_of_mem_set hx with h1 | h1
    · exact h.tok x h1
    · rw [h1]; exact ht, h.vok⟩
theorem Rk.Ok.tag {r : Rk} (h : r.Ok) (id : Nat) : r.tag id < 18446744073709551616 := by
  unfold Rk.tag
  rw [List.getD_eq_getElem?_getD]
  by_cases hl : r.at id < r.tags.length
  · rw [List.getElem?_eq_getElem hl]; exact h.tok _ (List.getElem_mem hl)
  · rw [List.getElem?_eq_none (by omega)]; simp
set_option maxRecDepth 100000 in
set_option maxHeartbeats 2000000 in
theorem kSentR {w : World} {rb : Nat} {cs : List Value} (kind : Int) (x : Nat) (hb : Blk w rb cs 227) (h0 : cs[0]? = some (.int .i64 kind)) (h3 : ∃ u, cs[3]? = some u) :
    Calls Tryz.prog 77 #[.pointer (some ⟨rb, 0, none⟩), .int .u64 x] w fun e w' => e = .returned (.tuple #[]) ∧ Blk w' rb (if kind = 1 then cs.set 3 (.int .u64 x) else cs) 227 ∧ Kp (fun b => b = rb) w w' := by
  obtain ⟨u, h3⟩ := h3
  have c0 := hb.cell 0 h0
  have c3 := hb.cell 3 h3
  have cf := hb.fz 3
  have HB := Lib.hid hb
  clear hb h0 h3
  by_cases h : kind = 1
  · have h' : (kind == 1) = true := by rw [beq_iff_eq]; exact h
    rw [if_pos h]
    clear h
    go_enter Tryz.func77, Tryz.ntmps77
    go_wp2
    go_end0
    exact ⟨rfl, HB.out.set 3 _, (Kp.refl (fun b => b = rb) w).set (p := ⟨rb, 3, none⟩) (.inl rfl) _⟩
  · have h' : (kind == 1) = false := by rw [beq_eq_false_iff_ne]; exact h
    rw [if_neg h]
    clear h
    go_enter Tryz.func77, Tryz.ntmps77
    go_wp2
    go_end0
    exact ⟨rfl, HB.out, Kp.refl _ _⟩
theorem kSent {w : World} {F : Nat → Prop} {rb : Nat} {r : Rk} (h : RMem w F rb r) (x : Nat) (hx : x < 18446744073709551616) :
    Calls Tryz.prog 77 #[.pointer (some ⟨rb, 0, none⟩), .int .u64 x] w fun e w' => e = .returned (.tuple #[]) ∧ RMem w' F rb (sentR r x) ∧ Kp F w w' := by
  obtain ⟨v1, v2, rfl, hb, h1, h2, ok⟩ := h
  refine (kSentR r.kind x hb rfl ⟨_, rfl⟩).mono ?_
  rintro e w' ⟨he, hb', hk⟩
  have n1 := own_ne_blk h1 hb (by decide)
  have n2 := own_ne_blk h2 hb (by decide)
  refine ⟨he, ?_, hk.mono (fun b _ e => .inl e)⟩
  unfold sentR
  by_cases hc : r.kind = 1
  · rw [if_pos hc] at hb' ⊢
    exact ⟨v1, v2, rfl, hb', own_kp h1 hk (fun b hb e => n1 (by rw [hb, e])), own_kp h2 hk (fun b hb e => n2 (by rw [hb, e])), ⟨ok.kind, ok.len, ok.few, ok.fok, ok.tok, hx⟩⟩
  · rw [if_neg hc] at hb' ⊢
    exact ⟨v1, v2, rfl, hb', own_kp h1 hk (fun b hb e => n1 (by rw [hb, e])), own_kp h2 hk (fun b hb e => n2 (by rw [hb, e])), ok⟩
set_option maxRecDepth 100000 in
set_option maxHeartbeats 2000000 in
theorem kNext2 {w : World} {rb : Nat}
  (g1 g2 cap1 cap2 m1 m2 q : Nat) (kind : Int) (virt tag cost budget now id n : Nat) (c0 : w.cell? ⟨rb, 0, none⟩ = some (.int .i64 kind)) (c1 : w.cell? ⟨rb, 1, none⟩ = some (.slice (some ⟨g1, 0, none⟩) m1 cap1)) (c2 : w.cell? ⟨rb, 2, none⟩ = some (.slice (some ⟨g2, 0, none⟩) m2 cap2)) (c3 : w.cell? ⟨rb, 3, none⟩ = some (.int .u64 virt)) (ct : w.cell? ⟨g2, q, none⟩ = some (.int .u64 tag)) (cc : w.cell? ⟨g1, q * 5 + 1, none⟩ = some (.int .u64 cost)) (cb : w.cell? ⟨g1, q * 5 + 2, none⟩ = some (.int .u64 budget)) (hq1 : q < m1) (hq2 : q < m2) (hm : m1 ≤ 64 ∧ m2 ≤ 64) (htf : w.frozen? ⟨g2, q, none⟩ = false)
  (HI : ∀ W y, Kp none' w W → W.cell? ⟨y, 0, none⟩ = some (.int .u32 id) → Calls Tryz.prog 102 #[.slice (some ⟨g1, 0, none⟩) m1 cap1, .func (.func 103) #[] #[.pointer (some ⟨y, 0, none⟩)]] W fun e w' => e = .returned (.int .i64 q) ∧ Kp none' W w')
  (hk : kind = 2) (hn : now < 18446744073709551616) (hbu : budget < 18446744073709551616) :
    Calls Tryz.prog 74 #[.pointer (some ⟨rb, 0, none⟩), .int .u64 now, .int .u32 id, .int .u64 n] w fun e w' => e = .returned (.tuple #[.int .u64 (satN now budget), .int .i64 0]) ∧ Kp none' w w' := by
  subst hk
  have HS := Lib.hid (fun W => sAdd now budget hn hbu W)
  generalize satN now budget = R at *
  have HI := Lib.hid (fun W (k : Kp none' w W) (y : W.cell? ⟨w.heap.size, 0, none⟩ = some (.int .u32 (id : Int))) => HI W w.heap.size k y)
  have hqi : (q : Int) < m1 := by omega
  have hqj : (q : Int) < m2 := by omega
  clear hn hbu htf
  have hrl : rb < w.heap.size := World.block_lt_of_cell? _ _ c0
  go_enter Tryz.func74, Tryz.ntmps74
  go_wp2_with fail
  refine (HI.out _ ((Kp.refl none' w).alloc _) ?_).mono ?_
  · exact (Blk.new w [.int .u32 id] 24).cell 0 rfl
  rintro e w1 ⟨rfl, hk0⟩
  have hk1 := ((Kp.refl none' w).alloc (.cells #[.int .u32 (id : Int)] 24)).trans hk0
  have HK1 := Lib.hid hk1
  have d0 := hk1.cell c0 (fun x => x)
  have d1 := hk1.cell c1 (fun x => x)
  have d2 := hk1.cell c2 (fun x => x)
  have d3 := hk1.cell c3 (fun x => x)
  have dt := hk1.cell ct (fun x => x)
  have dc := hk1.cell cc (fun x => x)
  have db := hk1.cell cb (fun x => x)
  clear hk0 hk1 c0 c1 c2 c3 ct cc cb
  go_wp2_with fail
  refine (HS.out _).mono ?_
  rintro e w3 ⟨rfl, rfl⟩
  go_wp2_with fail
  go_ret2
  exact ⟨rfl, HK1.out⟩
set_option maxRecDepth 100000 in
set_option maxHeartbeats 2000000 in
theorem kNext3 {w : World} {rb : Nat}
  (g1 g2 cap1 cap2 m1 m2 q : Nat) (kind : Int) (virt tag cost budget now id n : Nat) (c0 : w.cell? ⟨rb, 0, none⟩ = some (.int .i64 kind)) (c1 : w.cell? ⟨rb, 1, none⟩ = some (.slice (some ⟨g1, 0, none⟩) m1 cap1)) (c2 : w.cell? ⟨rb, 2, none⟩ = some (.slice (some ⟨g2, 0, none⟩) m2 cap2)) (c3 : w.cell? ⟨rb, 3, none⟩ = some (.int .u64 virt)) (ct : w.cell? ⟨g2, q, none⟩ = some (.int .u64 tag)) (cc : w.cell? ⟨g1, q * 5 + 1, none⟩ = some (.int .u64 cost)) (cb : w.cell? ⟨g1, q * 5 + 2, none⟩ = some (.int .u64 budget)) (hq1 : q < m1) (hq2 : q < m2) (hm : m1 ≤ 64 ∧ m2 ≤ 64) (htf : w.frozen? ⟨g2, q, none⟩ = false)
  (HI : ∀ W y, Kp none' w W → W.cell? ⟨y, 0, none⟩ = some (.int .u32 id) → Calls Tryz.prog 102 #[.slice (some ⟨g1, 0, none⟩) m1 cap1, .func (.func 103) #[] #[.pointer (some ⟨y, 0, none⟩)]] W fun e w' => e = .returned (.int .i64 q) ∧ Kp none' W w')
  (hk : kind = 3) (ht : tag < 18446744073709551616) :
    Calls Tryz.prog 74 #[.pointer (some ⟨rb, 0, none⟩), .int .u64 now, .int .u32 id, .int .u64 n] w fun e w' => e = .returned (.tuple #[.int .u64 tag, .int .i64 0]) ∧ ∃ W, Kp none' w W ∧ w' = W.setCell ⟨g2, q, none⟩ (.int .u64 (tag - n : Nat)) := by
  subst hk
  have HS := Lib.hid (fun W => sSub tag n ht W)
  have HZ : Hid (∀ W, Kp none' w W → W.frozen? ⟨g2, q, none⟩ = false) := Lib.hid (fun W k => by
    have hlt := World.block_lt_of_cell? _ _ ct
    have := k.block g2 hlt (fun x => x)
    unfold World.frozen? at htf ⊢
    simp only [this]; exact htf)
  obtain ⟨R, hR⟩ : ∃ R, tag - n = R := ⟨_, rfl⟩
  rw [hR] at HS ⊢
  have HI := Lib.hid (fun W (k : Kp none' w W) (y : W.cell? ⟨w.heap.size, 0, none⟩ = some (.int .u32 (id : Int))) => HI W w.heap.size k y)
  have hqi : (q : Int) < m1 := by omega
  have hqj : (q : Int) < m2 := by omega
  clear ht hR htf
  have hrl : rb < w.heap.size := World.block_lt_of_cell? _ _ c0
  go_enter Tryz.func74, Tryz.ntmps74
  go_wp2_with fail
  refine (HI.out _ ((Kp.refl none' w).alloc _) ?_).mono ?_
  · exact (Blk.new w [.int .u32 id] 24).cell 0 rfl
  rintro e w1 ⟨rfl, hk0⟩
  have hk1 := ((Kp.refl none' w).alloc (.cells #[.int .u32 (id : Int)] 24)).trans hk0
  have HK1 := Lib.hid hk1
  have d0 := hk1.cell c0 (fun x => x)
  have d1 := hk1.cell c1 (fun x => x)
  have d2 := hk1.cell c2 (fun x => x)
  have d3 := hk1.cell c3 (fun x => x)
  have dt := hk1.cell ct (fun x => x)
  have dc := hk1.cell cc (fun x => x)
  have db := hk1.cell cb (fun x => x)
  clear hk0 hk1 c0 c1 c2 c3 ct cc cb
  go_wp2_with fail
  refine wp_region_kept2 [] [0, 1, 2, 3, 4, 5, 6, 7] 8 (by kernel_rfl) (by kernel_rfl) (fun c a d u w h => by cases d <;> exact h) ?_
  simp only [pick, List.getElem?_cons_succ, List.getElem?_cons_zero, List.drop_succ_cons, List.drop_zero]
  show wpKL _ _ _ _ _ _
  repeat (first
    | (refine wpKL_op (by exact rfl) (by as_aux_lemma => intro W hK; have e0 := hK.cell d2 (fun x => x); have e1 := hK.cell dt (fun x => x); go_simp; exact rfl) ?_; simp only [Act.put, List.setIfInBounds_toArray, List.set_cons_succ, List.set_cons_zero])
    | (refine wpKL_off (by exact rfl) ?_; simp only [Act.put, List.setIfInBounds_toArray, List.set_cons_succ, List.set_cons_zero])
    | (refine wpKL_call (by exact rfl) (by as_aux_lemma => intro W; go_simp; exact ⟨rfl, rfl⟩) (by intro W hK; with_reducible first | exact (HS.out W).mono fun _ _ h => ⟨h.1, h.2 ▸ Kp.refl _ _⟩) ?_; simp only [Act.put, List.setIfInBounds_toArray, List.set_cons_succ, List.set_cons_zero]))
  show ∀ W, _ → wpList _ _ _ _ _ _
  intro W3 hK3
  have HK3 := Lib.hid (HK1.out.trans hK3)
  have f0 := hK3.cell dt (fun x => x)
  have fz := HZ.out W3 HK3.out
  clear hK3 d0 d1 d2 d3 dt dc db
  go_wp2_with fail
  go_ret2
  exact ⟨rfl, _, HK3.out, rfl⟩
set_option maxRecDepth 100000 in
set_option maxHeartbeats 2000000 in
theorem kNext1 {w : World} {rb : Nat}
  (g1 g2 cap1 cap2 m1 m2 q : Nat) (kind : Int) (virt tag cost budget now id n : Nat) (c0 : w.cell? ⟨rb, 0, none⟩ = some (.int .i64 kind)) (c1 : w.cell? ⟨rb, 1, none⟩ = some (.slice (some ⟨g1, 0, none⟩) m1 cap1)) (c2 : w.cell? ⟨rb, 2, none⟩ = some (.slice (some ⟨g2, 0, none⟩) m2 cap2)) (c3 : w.cell? ⟨rb, 3, none⟩ = some (.int .u64 virt)) (ct : w.cell? ⟨g2, q, none⟩ = some (.int .u64 tag)) (cc : w.cell? ⟨g1, q * 5 + 1, none⟩ = some (.int .u64 cost)) (cb : w.cell? ⟨g1, q * 5 + 2, none⟩ = some (.int .u64 budget)) (hq1 : q < m1) (hq2 : q < m2) (hm : m1 ≤ 64 ∧ m2 ≤ 64) (htf : w.frozen? ⟨g2, q, none⟩ = false)
  (HI : ∀ W y, Kp none' w W → W.cell? ⟨y, 0, none⟩ = some (.int .u32 id) → Calls Tryz.prog 102 #[.slice (some ⟨g1, 0, none⟩) m1 cap1, .func (.func 103) #[] #[.pointer (some ⟨y, 0, none⟩)]] W fun e w' => e = .returned (.int .i64 q) ∧ Kp none' W w')
  (hk : kind = 1) (ht : tag < 18446744073709551616) (hv : virt < 18446744073709551616) (hco : cost < 18446744073709551616) (hn : n < 18446744073709551616) :
    Calls Tryz.prog 74 #[.pointer (some ⟨rb, 0, none⟩), .int .u64 now, .int .u32 id, .int .u64 n] w fun e w' => e = .returned (.tuple #[.int .u64 (max virt tag : Nat), .int .i64 0]) ∧ ∃ W, Kp none' w W ∧ w' = W.setCell ⟨g2, q, none⟩ (.int .u64 (satN (max virt tag) (satM cost n))) := by
  subst hk
  have HS := Lib.hid (fun W => sMulAdd (max virt tag) cost n (by omega) hco hn W)
  have HZ : Hid (∀ W, Kp none' w W → W.frozen? ⟨g2, q, none⟩ = false) := Lib.hid (fun W k => by
    have hlt := World.block_lt_of_cell? _ _ ct
    have := k.block g2 hlt (fun x => x)
    unfold World.frozen? at htf ⊢
    simp only [this]; exact htf)
  obtain ⟨M, hM⟩ : ∃ M, max virt tag = M := ⟨_, rfl⟩
  have hMi : max (virt : Int) (tag : Int) = (M : Int) := by omega
  rw [hM] at HS ⊢
  obtain ⟨R, hR⟩ : ∃ R, satN M (satM cost n) = R := ⟨_, rfl⟩
  rw [hR] at HS ⊢
  have HI := Lib.hid (fun W (k : Kp none' w W) (y : W.cell? ⟨w.heap.size, 0, none⟩ = some (.int .u32 (id : Int))) => HI W w.heap.size k y)
  have hqi : (q : Int) < m1 := by omega
  have hqj : (q : Int) < m2 := by omega
  clear ht hR htf hM hv hco hn
  have hrl : rb < w.heap.size := World.block_lt_of_cell? _ _ c0
  go_enter Tryz.func74, Tryz.ntmps74
  go_wp2_with fail
  refine (HI.out _ ((Kp.refl none' w).alloc _) ?_).mono ?_
  · exact (Blk.new w [.int .u32 id] 24).cell 0 rfl
  rintro e w1 ⟨rfl, hk0⟩
  have hk1 := ((Kp.refl none' w).alloc (.cells #[.int .u32 (id : Int)] 24)).trans hk0
  have HK1 := Lib.hid hk1
  have d0 := hk1.cell c0 (fun x => x)
  have d1 := hk1.cell c1 (fun x => x)
  have d2 := hk1.cell c2 (fun x => x)
  have d3 := hk1.cell c3 (fun x => x)
  have dt := hk1.cell ct (fun x => x)
  have dc := hk1.cell cc (fun x => x)
  have db := hk1.cell cb (fun x => x)
  clear hk0 hk1 c0 c1 c2 c3 ct cc cb
  go_wp2_with fail
  refine wp_region_kept2 [] [0, 1, 2, 3, 4, 5, 6, 7, 8, 9, 10, 11, 12, 13, 14, 15] 16 (by kernel_rfl) (by kernel_rfl) (fun c a d u w h => by cases d <;> exact h) ?_
  simp only [pick, List.getElem?_cons_succ, List.getElem?_cons_zero, List.drop_succ_cons, List.drop_zero]
  show wpKL _ _ _ _ _ _
  repeat (first
    | (refine wpKL_op (by exact rfl) (by as_aux_lemma => intro W hK; have e0 := hK.cell d2 (fun x => x); have e1 := hK.cell d1 (fun x => x); have e2 := hK.cell dc (fun x => x); go_simp; exact rfl) ?_; simp only [Act.put, List.setIfInBounds_toArray, List.set_cons_succ, List.set_cons_zero])
    | (refine wpKL_off (by exact rfl) ?_; simp only [Act.put, List.setIfInBounds_toArray, List.set_cons_succ, List.set_cons_zero])
    | (refine wpKL_call (by exact rfl) (by as_aux_lemma => intro W; go_simp; exact ⟨rfl, rfl⟩) (by intro W hK; with_reducible first | exact (HS.out W).mono fun _ _ h => ⟨h.1, h.2 ▸ Kp.refl _ _⟩) ?_; simp only [Act.put, List.setIfInBounds_toArray, List.set_cons_succ, List.set_cons_zero]))
  show ∀ W, _ → wpList _ _ _ _ _ _
  intro W3 hK3
  have HK3 := Lib.hid (HK1.out.trans hK3)
  have f0 := hK3.cell dt (fun x => x)
  have fz := HZ.out W3 HK3.out
  clear hK3 d0 d1 d2 d3 dt dc db
  go_wp2_with fail
  go_ret2
  exact ⟨rfl, _, HK3.out, rfl⟩
theorem kNext {w : World} {F : Nat → Prop} {rb : Nat} {r : Rk} (h : RMem w F rb r) (now id n : Nat) (hnow : now < 18446744073709551616) (hn : n < 18446744073709551616) (h0 : 0 ≤ findF r.fl id) :
    Calls Tryz.prog 74 #[.pointer (some ⟨rb, 0, none⟩), .int .u64 now, .int .u32 id, .int .u64 n] w fun e w' => e = .returned (.tuple #[.int .u64 (nextR r now id n).1, .int .i64 0]) ∧ RMem w' F rb (nextR r now id n).2 ∧ (nextR r now id n).1 < 18446744073709551616 ∧ Kp F w w' := by
  obtain ⟨v1, v2, rfl, hb, h1, h2, ok⟩ := h
  have hge := findF_ge r.fl id
  obtain ⟨q, hq⟩ : ∃ q, r.at id = q := ⟨_, rfl⟩
  have hqF : findF r.fl id = (q : Int) := by have : (findF r.fl id).toNat = q := hq; omega
  have hq1 : q < r.fl.length := by omega
  have hq2 : q < r.tags.length := by rw [ok.len]; exact hq1
  obtain ⟨g1, cap1, e1, _⟩ := own_shape1 h1 (by omega)
  obtain ⟨g2, cap2, e2, _⟩ := own_shape1 h2 (by omega)
  subst e1 e2
  have hf : r.f id = r.fl[q] := by unfold Rk.f; rw [hq, List.getD_eq_getElem?_getD, List.getElem?_eq_getElem hq1]; rfl
  have htg : r.tag id = r.tags[q] := by unfold Rk.tag; rw [hq, List.getD_eq_getElem?_getD, List.getElem?_eq_getElem hq2]; rfl
  have hfok := ok.fok _ (List.getElem_mem hq1)
  have hcell : ∀ k u, (enFl r.fl[q])[k]? = some u → w.cell? ⟨g1, q * 5 + k, none⟩ = some u := fun k u hu => own_cell h1 _ (by
    rw [flat_get enFl 5 enFl_len _ _ _ (by have := (List.getElem?_eq_some_iff.1 hu).1; rwa [enFl_len] at this), List.getElem?_eq_getElem hq1]; exact hu)
  have hct : w.cell? ⟨g2, q, none⟩ = some (.int .u64 r.tags[q]) := own_cell h2 _ (by rw [List.getElem?_map, List.getElem?_eq_getElem hq2]; rfl)
  have htt := ok.tok _ (List.getElem_mem hq2)
  have hsl : Sl w (.slice (some ⟨g1, 0, none⟩) r.fl.length cap1) r.fl.length 5 (r.fl.flatMap enFl) := own_sl h1
  have hI : ∀ W y, Kp none' w W → W.cell? ⟨y, 0, none⟩ = some (.int .u32 id) → Calls Tryz.prog 102 #[.slice (some ⟨g1, 0, none⟩) r.fl.length cap1, .func (.func 103) #[] #[.pointer (some ⟨y, 0, none⟩)]] W fun e w' => e = .returned (.int .i64 q) ∧ Kp none' W w' := fun W y k hy => by
    have := kIndex r.fl id y _ W (hsl.old k) hy
    rw [hqF] at this; exact this
  have hne12 := own_ne_own h1 h2 (by decide)
  have hn2 := own_ne_blk h2 hb (by decide)
  have hset : ∀ T, T < 18446744073709551616 → ∀ w', (∃ W, Kp none' w W ∧ w' = W.setCell ⟨g2, q, none⟩ (.int .u64 (T : Nat))) → RMem w' (fun b => b = rb ∨ (Value.slice (some ⟨g1, 0, none⟩) r.fl.length cap1).ownBlock = some b ∨ (Value.slice (some ⟨g2, 0, none⟩) r.tags.length cap2).ownBlock = some b) rb (r.setTag id T) ∧ Kp (fun b => b = rb ∨ (Value.slice (some ⟨g1, 0, none⟩) r.fl.length cap1).ownBlock = some b ∨ (Value.slice (some ⟨g2, 0, none⟩) r.tags.length cap2).ownBlock = some b) w w' := fun T hT w' ⟨W, hk, hw⟩ => by
    subst hw
    have a1 := (hb.kp hk (fun x => x)).setNe (a := ⟨g2, q, none⟩) (fun e => hn2 (by rw [e]; rfl)) (.int .u64 (T : Int))
    have a2 := own_setNe (own_kp h1 hk (fun _ _ x => x)) (a := ⟨g2, q, none⟩) (fun b hb e => hne12 b hb (by rw [e]; rfl)) (.int .u64 (T : Int))
    have a3 := own_set (own_kp h2 hk (fun _ _ x => x)) q (.int .u64 (T : Int))
    refine ⟨⟨_, _, ?_, a1, a2, ?_, ok.setTag id T hT⟩, ?_⟩
    · rfl
    · show World.ownsRow _ _ _ _ _ (r.tags.set _ _).length _
      rw [List.length_set]
      have e : (r.setTag id T).tags.map eN8 = (r.tags.map eN8).set q (.int .u64 (T : Int)) := by
        show (r.tags.set (r.at id) T).map eN8 = _
        rw [hq, List.map_set]; rfl
      rw [e]; exact a3
    · exact (hk.mono (fun _ _ x => x.elim)).set (p := ⟨g2, q, none⟩) (.inl (.inr (.inr rfl))) _
  have hvt : max r.virt r.tags[q] < 18446744073709551616 := by have := ok.vok; omega
  unfold nextR
  rw [hf, htg]
  by_cases k1 : r.kind = 1
  · rw [if_pos k1]
    refine (kNext1 g1 g2 cap1 cap2 r.fl.length r.tags.length q r.kind r.virt r.tags[q] r.fl[q].cost r.fl[q].budget now id n (hb.cell 0 rfl) (hb.cell 1 rfl) (hb.cell 2 rfl) (hb.cell 3 rfl) hct (hcell 1 _ rfl) (hcell 2 _ rfl) hq1 hq2 ⟨ok.few.2, by rw [ok.len]; exact ok.few.2⟩ (own_fz h2 _) hI k1 htt ok.vok hfok.cost hn).mono ?_
    rintro e w' ⟨he, hw⟩
    obtain ⟨a, b⟩ := hset _ (satN_lt _ _) w' hw
    exact ⟨he, a, hvt, b⟩
  · rw [if_neg k1]
    by_cases k2 : r.kind = 2
    · rw [if_pos k2]
      refine (kNext2 g1 g2 cap1 cap2 r.fl.length r.tags.length q r.kind r.virt r.tags[q] r.fl[q].cost r.fl[q].budget now id n (hb.cell 0 rfl) (hb.cell 1 rfl) (hb.cell 2 rfl) (hb.cell 3 rfl) hct (hcell 1 _ rfl) (hcell 2 _ rfl) hq1 hq2 ⟨ok.few.2, by rw [ok.len]; exact ok.few.2⟩ (own_fz h2 _) hI k2 hnow hfok.budget).mono ?_
      rintro e w' ⟨he, hk⟩
      exact ⟨he, ⟨_, _, rfl, hb.kp hk (fun x => x), own_kp h1 hk (fun _ _ x => x), own_kp h2 hk (fun _ _ x => x), ok⟩, satN_lt _ _, hk.mono (fun _ _ x => x.elim)⟩
    · rw [if_neg k2]
      have k3 : r.kind = 3 := by have := ok.kind; omega
      refine (kNext3 g1 g2 cap1 cap2 r.fl.length r.tags.length q r.kind r.virt r.tags[q] r.fl[q].cost r.fl[q].budget now id n (hb.cell 0 rfl) (hb.cell 1 rfl) (hb.cell 2 rfl) (hb.cell 3 rfl) hct (hcell 1 _ rfl) (hcell 2 _ rfl) hq1 hq2 ⟨ok.few.2, by rw [ok.len]; exact ok.few.2⟩ (own_fz h2 _) hI k3 htt).mono ?_
      rintro e w' ⟨he, hw⟩
      obtain ⟨a, b⟩ := hset _ (by omega) w' hw
      exact ⟨he, a, htt, b⟩

def BkM (w : World) (F : Nat → Prop) (v : Value) (room : Nat) : BkS → Prop
  | .hp n S => ∃ b, v = hpV b ∧ Hp w F b room n S
  | .qu bs Qs => ∃ b, v = quV b ∧ Qu w F b room bs Qs
theorem BkM.kp {T : Nat → Prop} {w w' : World} {F : Nat → Prop} {v : Value} {room : Nat} {s : BkS} (h : BkM w F v room s) (k : Kp T w w') (hT : ∀ b, F b → ¬ T b) : BkM w' F v room s := by
  cases s with
  | hp n S => obtain ⟨b, e, h⟩ := h; exact ⟨b, e, h.kp k hT⟩
  | qu bs Qs => obtain ⟨b, e, h⟩ := h; exact ⟨b, e, h.kp k hT⟩
theorem BkM.old {w w' : World} {F : Nat → Prop} {v : Value} {room : Nat} {s : BkS} (h : BkM w F v room s) (k : Kp none' w w') : BkM w' F v room s := h.kp k (fun _ _ x => x)
theorem BkM.lt {w : World} {F : Nat → Prop} {v : Value} {room : Nat} {s : BkS} (h : BkM w F v room s) {b : Nat} (hb : F b) : b < w.heap.size := by
  cases s with
  | hp n S => obtain ⟨_, _, h⟩ := h; exact h.lt hb
  | qu bs Qs => obtain ⟨_, _, h⟩ := h; exact h.lt hb
theorem BkM.shape {w : World} {F : Nat → Prop} {v : Value} {room : Nat} {s : BkS} (h : BkM w F v room s) : ∃ t b, v = .iface t (.agg #[.pointer (some ⟨b, 0, none⟩)]) := by
  cases s with
  | hp n S => obtain ⟨b, e, h⟩ := h; exact ⟨_, b, e⟩
  | qu bs Qs => obtain ⟨b, e, h⟩ := h; exact ⟨_, b, e⟩
structure Sh where
  g : Ga
  r : Rk
  rate : Nat
  burst : Nat
  tok : Nat
  bk : BkS
  now : Nat
  ref : List Nat
structure ShF where
  sb : Nat
  gb : Nat
  rb : Nat
  v : Value
  Fg : Nat → Prop
  Fr : Nat → Prop
  Fb : Nat → Prop
def ShF.all (f : ShF) : Nat → Prop := fun b => b = f.sb ∨ f.Fg b ∨ f.Fr b ∨ f.Fb b
def shC (s : Sh) (f : ShF) : List Value := [.pointer (some ⟨f.gb, 0, none⟩), .pointer (some ⟨f.rb, 0, none⟩), .int .u64 s.rate, .int .u64 s.burst, .int .u64 s.tok, f.v, .int .u64 s.now] ++ s.ref.map eN8
structure Sh.Ok (s : Sh) : Prop where
  rate : 0 < s.rate ∧ s.rate < 18446744073709551616
  burst : 0 < s.burst ∧ s.burst < 18446744073709551616
  tok : s.tok ≤ s.burst
  now : s.now < 18446744073709551616
  ref : ∀ x ∈ s.ref, x < 18446744073709551616
  len : s.ref.length = 32
  wf : bkWf s.bk
  fl : s.r.fl = s.g.c.flows
  its : ∀ i ∈ bkItems s.bk, i.rank < 18446744073709551616 ∧ i.x.flow < 4294967296 ∧ i.x.id < 4294967296 ∧ i.x.len < 18446744073709551616
  tot : ((bkItems s.bk).length : Int) ≤ sumP s.g.st
structure ShM (w : World) (f : ShF) (s : Sh) : Prop where
  top : Blk w f.sb (shC s f) 140
  gate : GMem w f.Fg f.gb s.g
  ranks : RMem w f.Fr f.rb s.r
  back : BkM w f.Fb f.v s.g.c.packets.toNat s.bk
  sg : ¬ f.Fg f.sb
  sr : ¬ f.Fr f.sb
  sk : ¬ f.Fb f.sb
  gr : ∀ b, f.Fg b → ¬ f.Fr b
  gk : ∀ b, f.Fg b → ¬ f.Fb b
  rk : ∀ b, f.Fr b → ¬ f.Fb b
  ok : s.Ok
theorem ShM.kp {T : Nat → Prop} {w w' : World} {f : ShF} {s : Sh} (h : ShM w f s) (k : Kp T w w') (hT : ∀ b, f.all b → ¬ T b) : ShM w' f s :=
  { h with top := h.top.kp k (hT _ (.inl rfl)), gate := h.gate.kp k (fun b hb => hT b (.inr (.inl hb))), ranks := h.ranks.kp k (fun b hb => hT b (.inr (.inr (.inl hb)))), back := h.back.kp k (fun b hb => hT b (.inr (.inr (.inr hb)))) }
theorem ShM.old {w w' : World} {f : ShF} {s : Sh} (h : ShM w f s) (k : Kp none' w w') : ShM w' f s := h.kp k (fun _ _ x => x)
theorem ShM.lt {w : World} {f : ShF} {s : Sh} (h : ShM w f s) {b : Nat} (hb : f.all b) : b < w.heap.size := by
  rcases hb with rfl | hb | hb | hb
  · exact h.top.lt
  · exact h.gate.lt hb
  · exact h.ranks.lt hb
  · exact h.back.lt hb

theorem chk_parts {c : CfR} (h : chk c = 0) : (1 ≤ c.rank ∧ c.rank ≤ 3) ∧ (1 ≤ c.queues ∧ c.queues ≤ 32) ∧ admE c = 0 ∧ 0 < c.rate ∧ c.mtu ≤ c.burst := by
  unfold chk at h
  split at h
  · cases h
  · split at h
    · cases h
    · split at h
      · cases h
      · split at h
        · rename_i h1; exact absurd h h1
        · rename_i h1
          split at h
          · cases h
          · split at h
            · cases h
            · exact ⟨by omega, by omega, by omega, by omega, by omega⟩
def shNewS (c : CfR) (st : BkS) : Sh := ⟨gaNew c, ⟨c.rank, c.flows, c.flows.map (tagF c.rank), 0⟩, c.rate, c.burst, c.burst, st, 0, List.replicate 32 0⟩
set_option maxRecDepth 100000 in
set_option maxHeartbeats 4000000 in
theorem shNew (c : CfR) (hc : c.ok) (hE : chk c = 0) (v : Value) (w : World) (h : Sl w v c.flows.length 5 (c.flows.flatMap enFl)) (st : BkS) (hst : bkItems st = []) (hwf : bkWf st)
    (hmade : ∀ W, Kp none' w W → Calls Tryz.prog 84 #[.agg (enC c v).toArray] W fun e w' => ∃ v Fb, e = .returned v ∧ BkM w' Fb v c.packets.toNat st ∧ (∀ b, Fb b → W.heap.size ≤ b) ∧ Kp none' W w') :
    Calls Tryz.prog 55 #[.agg (enC c v).toArray] w fun e w' => ∃ f, e = .returned (.tuple #[.pointer (some ⟨f.sb, 0, none⟩), .int .i64 0]) ∧ ShM w' f (shNewS c st) ∧ (∀ b, f.all b → w.heap.size ≤ b) ∧ Kp none' w w' := by
  obtain ⟨hk1, hk2, hk3, hk4, hk5⟩ := chk_parts hE
  have HCH := Lib.hid (fun W (k : Kp none' w W) => by have := gChk c hc v W (h.old k); rw [hE] at this; exact this)
  have HG := Lib.hid (fun W (k : Kp none' w W) => gNew c hc hk3 v W (h.old k))
  have hadm := gaNew_ok hc hk3
  have hlims := hadm.lims
  have HR := Lib.hid (fun W (k : Kp none' w W) => kNew c.rank hk1 c.flows v W (h.old k) hlims.2.2.2.2.2.2 hc.flows)
  have hmtu : 1 ≤ c.mtu := hlims.2.2.2.2.1
  have HT := Lib.hid (fun W => bNewOk c.rate c.burst hk4 (by omega) W)
  have HM := Lib.hid hmade
  have HOKS : Hid (shNewS c st).Ok := Lib.hid ⟨⟨hk4, by have := hc.rate; unfold M64 at this; exact this⟩, ⟨by show 0 < c.burst; omega, by have := hc.burst; unfold M64 at this; exact this⟩, Nat.le_refl _, by show 0 < _; decide, fun x hx => by rw [(List.mem_replicate.1 hx).2]; decide, by show (List.replicate 32 0).length = 32; rfl, hwf, rfl, (by show ∀ i ∈ bkItems st, _; rw [hst]; intro i hi; cases hi), by show ((bkItems st).length : Int) ≤ sumP (c.flows.map thF); rw [hst, sumP_new]; decide⟩
  obtain ⟨ao, cap, rfl⟩ : ∃ ao cap, v = .slice ao c.flows.length cap := by obtain ⟨ao, cap, rfl, _⟩ := h.is; exact ⟨_, _, rfl⟩
  have HB0 := Lib.hid (Blk.new w (enC c (.slice ao c.flows.length cap)) 76)
  have HK0 := Lib.hid ((Kp.refl none' w).alloc (.cells (enC c (.slice ao c.flows.length cap)).toArray 76))
  refine calls_post ?_
  intro PP HP
  clear h hmade hst hwf hE hk1 hk2 hk3 hk4 hk5 hadm hlims hmtu hc
  obtain ⟨rk, bk, lv, qu, pk, bt, sh, mt, rt, bu, fl⟩ := c
  simp only [enC] at *
  go_enter Tryz.func55, Tryz.ntmps55
  go_wp2_with fail
  refine (HCH.out _ HK0.out).mono ?_
  rintro e w1 ⟨rfl, hk1⟩
  have hb1 := HB0.out.kp hk1 (fun x => x)
  have HK1 := Lib.hid (HK0.out.trans hk1)
  have HB1 := Lib.hid hb1
  have HBX := HB1
  have y0 := HBX.out.cell 0 rfl
  have y1 := HBX.out.cell 1 rfl
  have y2 := HBX.out.cell 2 rfl
  have y3 := HBX.out.cell 3 rfl
  have y4 := HBX.out.cell 4 rfl
  have y5 := HBX.out.cell 5 rfl
  have y6 := HBX.out.cell 6 rfl
  have y7 := HBX.out.cell 7 rfl
  have y8 := HBX.out.cell 8 rfl
  have y9 := HBX.out.cell 9 rfl
  have y10 := HBX.out.cell 10 rfl
  clear hk1 hb1 HB0 HK0 HBX
  go_wp2_with fail
  refine (HM.out _ HK1.out).mono ?_
  rintro e w2 ⟨v2, Fb, rfl, hbk, hFb, hk2⟩
  obtain ⟨t2, b2, rfl⟩ := hbk.shape
  have HBK := Lib.hid hbk
  have HFB := Lib.hid hFb
  have HK2 := Lib.hid (HK1.out.trans hk2)
  have HB2 := Lib.hid (HB1.out.kp hk2 (fun x => x))
  clear hbk hFb hk2 y0 y1 y2 y3 y4 y5 y6 y7 y8 y9 y10
  have HBX := HB2
  have y0 := HBX.out.cell 0 rfl
  have y1 := HBX.out.cell 1 rfl
  have y2 := HBX.out.cell 2 rfl
  have y3 := HBX.out.cell 3 rfl
  have y4 := HBX.out.cell 4 rfl
  have y5 := HBX.out.cell 5 rfl
  have y6 := HBX.out.cell 6 rfl
  have y7 := HBX.out.cell 7 rfl
  have y8 := HBX.out.cell 8 rfl
  have y9 := HBX.out.cell 9 rfl
  have y10 := HBX.out.cell 10 rfl
  have hbl := HB2.out.lt
  have HSB := Lib.hid (Blk.new w2 [.pointer none, .pointer none, .int .u64 0, .int .u64 0, .int .u64 0, .iface t2 (.agg #[.pointer (some ⟨b2, 0, none⟩)]), .int .u64 0, .int .u64 0, .int .u64 0, .int .u64 0, .int .u64 0, .int .u64 0, .int .u64 0, .int .u64 0, .int .u64 0, .int .u64 0, .int .u64 0, .int .u64 0, .int .u64 0, .int .u64 0, .int .u64 0, .int .u64 0, .int .u64 0, .int .u64 0, .int .u64 0, .int .u64 0, .int .u64 0, .int .u64 0, .int .u64 0, .int .u64 0, .int .u64 0, .int .u64 0, .int .u64 0, .int .u64 0, .int .u64 0, .int .u64 0, .int .u64 0, .int .u64 0, .int .u64 0] 140)
  have HKA := Lib.hid ((Kp.refl none' w2).alloc (.cells #[.pointer none, .pointer none, .int .u64 0, .int .u64 0, .int .u64 0, .iface t2 (.agg #[.pointer (some ⟨b2, 0, none⟩)]), .int .u64 0, .int .u64 0, .int .u64 0, .int .u64 0, .int .u64 0, .int .u64 0, .int .u64 0, .int .u64 0, .int .u64 0, .int .u64 0, .int .u64 0, .int .u64 0, .int .u64 0, .int .u64 0, .int .u64 0, .int .u64 0, .int .u64 0, .int .u64 0, .int .u64 0, .int .u64 0, .int .u64 0, .int .u64 0, .int .u64 0, .int .u64 0, .int .u64 0, .int .u64 0, .int .u64 0, .int .u64 0, .int .u64 0, .int .u64 0, .int .u64 0, .int .u64 0, .int .u64 0] 140))
  have HBK2 := Lib.hid (HBK.out.old HKA.out)
  have HB3 := Lib.hid (HB2.out.kp HKA.out (fun x => x))
  have HK3 := Lib.hid (HK2.out.trans HKA.out)
  clear HBX
  go_wp2_with fail
  refine (HG.out _ HK3.out).mono ?_
  rintro e w4 ⟨gb, Fg, rfl, hg, hFg, hk4⟩
  have HB4 := Lib.hid (HB3.out.kp hk4 (fun x => x))
  have HS4 := Lib.hid (HSB.out.kp hk4 (fun x => x))
  have HK4 := Lib.hid (HK3.out.trans hk4)
  have HBK4 := Lib.hid (HBK2.out.old hk4)
  have HG4 := Lib.hid hg
  have HFG := Lib.hid hFg
  have hsl := HS4.out.lt
  have s0 := HS4.out.cell 0 rfl
  have sz := HS4.out.fz 0
  have hne1 : w.heap.size ≠ w2.heap.size := by omega
  have hne2 : w2.heap.size ≠ w.heap.size := by omega
  have hFgs : ∀ b, Fg b → w2.heap.size < b := fun b hb => by have := HFG.out b hb; simp at this; omega
  have hkq : Kp (fun b => b = w2.heap.size) w4 (w4.setCell ⟨w2.heap.size, 0, none⟩ (.pointer (some ⟨gb, 0, none⟩))) := (Kp.refl (fun b => b = w2.heap.size) w4).set (p := ⟨w2.heap.size, 0, none⟩) (.inl rfl) _
  have HB5 := Lib.hid (HB4.out.kp hkq (fun e => hne1 e))
  have HS5 := Lib.hid (HS4.out.set 0 (.pointer (some ⟨gb, 0, none⟩)))
  have HFBl : Hid (∀ b, Fb b → b < w2.heap.size) := Lib.hid (fun b hb => HBK.out.lt hb)
  have HBK5 := Lib.hid (HBK4.out.kp hkq (fun b hb e => by have := HFBl.out b hb; omega))
  have HG5 := Lib.hid (HG4.out.kp hkq (fun b hb e => by have := hFgs b hb; omega))
  have HFG5 := Lib.hid hFgs
  have hws : w.heap.size ≤ w2.heap.size := by omega
  have HK5 : Hid (Kp none' w (w4.setCell ⟨w2.heap.size, 0, none⟩ (.pointer (some ⟨gb, 0, none⟩)))) := Lib.hid (HK4.out.set (p := ⟨w2.heap.size, 0, none⟩) (.inr hws) _)
  have y0 := HB4.out.cell 0 rfl
  have y10 := HB4.out.cell 10 rfl
  clear hg hFg hk4 hFgs hkq y1 y2 y3 y4 y5 y6 y7 y8 y9 HG
  go_wp2_with fail
  refine (HR.out _ HK5.out).mono ?_
  rintro e w6 ⟨Fr, rb, rfl, hr, hFr, hk6⟩
  have hz5 : (w4.setCell ⟨w2.heap.size, 0, none⟩ (.pointer (some ⟨gb, 0, none⟩))).heap.size = w4.heap.size := by simp [World.setCell]
  have HB6 := Lib.hid (HB5.out.kp hk6 (fun x => x))
  have HS6 := Lib.hid (HS5.out.kp hk6 (fun x => x))
  have HK6 := Lib.hid (HK5.out.trans hk6)
  have HBK6 := Lib.hid (HBK5.out.old hk6)
  have HG6 := Lib.hid (HG5.out.old hk6)
  have HR6 := Lib.hid hr
  have hFrs : ∀ b, Fr b → w4.heap.size ≤ b := fun b hb => by have := hFr b hb; omega
  have HFR := Lib.hid hFrs
  have HFGl : Hid (∀ b, Fg b → b < w4.heap.size) := Lib.hid (fun b hb => HG4.out.lt hb)
  have s1 := HS6.out.cell 1 rfl
  have sz1 := HS6.out.fz 1
  have hkq : Kp (fun b => b = w2.heap.size) w6 (w6.setCell ⟨w2.heap.size, 1, none⟩ (.pointer (some ⟨rb, 0, none⟩))) := (Kp.refl (fun b => b = w2.heap.size) w6).set (p := ⟨w2.heap.size, 1, none⟩) (.inl rfl) _
  have hFGs := HFG5.out
  have HB7 := Lib.hid (HB6.out.kp hkq (fun e => hne1 e))
  have HS7 := Lib.hid (HS6.out.set 1 (.pointer (some ⟨rb, 0, none⟩)))
  have HBK7 := Lib.hid (HBK6.out.kp hkq (fun b hb e => by have := HFBl.out b hb; omega))
  have HG7 := Lib.hid (HG6.out.kp hkq (fun b hb e => by have := hFGs b hb; omega))
  have HR7 := Lib.hid (HR6.out.kp hkq (fun b hb e => by have := hFrs b hb; omega))
  have HK7 : Hid (Kp none' w (w6.setCell ⟨w2.heap.size, 1, none⟩ (.pointer (some ⟨rb, 0, none⟩)))) := Lib.hid (HK6.out.set (p := ⟨w2.heap.size, 1, none⟩) (.inr hws) _)
  have y8 := HB6.out.cell 8 rfl
  have y9 := HB6.out.cell 9 rfl
  clear hr hFr hk6 hkq hFrs hFGs y0 y10 s0 sz hz5 HR
  go_wp2_with fail
  refine (HT.out _).mono ?_
  rintro e w8 ⟨rfl, hk8⟩
  have HS8 := Lib.hid (HS7.out.kp hk8 (fun x => x))
  have HK8 := Lib.hid (HK7.out.trans hk8)
  have HBK8 := Lib.hid (HBK7.out.old hk8)
  have HG8 := Lib.hid (HG7.out.old hk8)
  have HR8 := Lib.hid (HR7.out.old hk8)
  have t2c := HS8.out.cell 2 rfl
  have t3c := HS8.out.cell 3 rfl
  have t4c := HS8.out.cell 4 rfl
  have tz := fun j => HS8.out.fz j
  clear hk8 y8 y9 s1 sz1 HT
  go_wp2_with fail
  have hFbl := HFBl.out
  have hFgs := HFG5.out
  have hFgl := HFGl.out
  have hFrs := HFR.out
  have hkq : Kp (fun b => b = w2.heap.size) w8 (((w8.setCell ⟨w2.heap.size, 2, none⟩ (.int .u64 rt)).setCell ⟨w2.heap.size, 3, none⟩ (.int .u64 bu)).setCell ⟨w2.heap.size, 4, none⟩ (.int .u64 bu)) :=
    (((Kp.refl (fun b => b = w2.heap.size) w8).set (p := ⟨w2.heap.size, 2, none⟩) (.inl rfl) _).set (p := ⟨w2.heap.size, 3, none⟩) (.inl rfl) _).set (p := ⟨w2.heap.size, 4, none⟩) (.inl rfl) _
  refine HP.out _ _ ⟨⟨w2.heap.size, gb, rb, .iface t2 (.agg #[.pointer (some ⟨b2, 0, none⟩)]), Fg, Fr, Fb⟩, rfl, ?_, ?_, HK8.out.then hkq (fun b hb e => by omega)⟩
  · exact { top := ((HS8.out.set 2 (.int .u64 rt)).set 3 (.int .u64 bu)).set 4 (.int .u64 bu)
            gate := HG8.out.kp hkq (fun b hb e => by have := hFgs b hb; omega)
            ranks := HR8.out.kp hkq (fun b hb e => by have := hFrs b hb; omega)
            back := HBK8.out.kp hkq (fun b hb e => by have := hFbl b hb; omega)
            sg := fun hb => by have := hFgs _ hb; simp only at this; omega
            sr := fun hb => by have := hFrs _ hb; simp only at this; omega
            sk := fun hb => by have := hFbl _ hb; simp only at this; omega
            gr := fun b h1 h2 => by have := hFgl b h1; have := hFrs b h2; omega
            gk := fun b h1 h2 => by have := hFgs b h1; have := hFbl b h2; omega
            rk := fun b h1 h2 => by have := hFrs b h1; have := hFbl b h2; omega
            ok := HOKS.out }
  · intro b hb
    rcases hb with rfl | hb | hb | hb
    · exact hws
    · have := hFgs b hb; omega
    · have := hFrs b hb; omega
    · have h1 := HFB.out b hb
      have h2 := HK1.out.size
      omega
end Go.Proofs.YtfckgddodjmbdaaGreatDoor
