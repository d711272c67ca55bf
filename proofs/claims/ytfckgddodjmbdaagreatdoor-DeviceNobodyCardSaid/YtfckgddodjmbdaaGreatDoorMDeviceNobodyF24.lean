/- The trie of layer 32: lay, for every tree; what a Put leaves in memory. -/
import Derived.Test.YtfckgddodjmbdaaGreatDoorMDeviceNobodyF23
import Derived.Laws.Bits64b
namespace Go.Proofs.YtfckgddodjmbdaaGreatDoor
set_option linter.unusedVariables false
set_option linter.unusedSimpArgs false
open Go.RowKit
theorem layOk (T : Tr) : LayOk T := by
  induction T with
  | nil => intro w nb np nx hc; exact hc.elim
  | node kb kp ku kx kl kr hl hr =>
    intro w nb np nx hc hM hw hnd hN hnb hok hnp
    obtain ⟨hB, hml, hmr⟩ := hM
    obtain ⟨ok2, w1, w2, w3, w4⟩ := hw
    simp only [Tr.blks, List.nodup_cons, List.mem_append, not_or, List.nodup_append] at hnd
    obtain ⟨⟨hkl, hkr⟩, ndl, ndr, hdis⟩ := hnd
    simp only [Tr.blks, List.mem_cons, List.mem_append, not_or] at hnb
    simp only [Tr.prs, List.mem_cons, List.mem_append, not_or] at hnp
    have hc' : covP kp np = true := hc
    have hlt : kp.2 < np.2 := by
      rcases Nat.lt_or_ge kp.2 np.2 with h | h
      · exact h
      · exact absurd (cov_same hc' (by have := cov_le hc'; omega)).symm hnp.1
    have h32 := (right_iff.1 hok.1).1
    rcases side_two kp np.1 with hs | hs
    · refine (layAt w kb nb nx 0 kp np (enNd kp ku kx kl kr) kl hB rfl hs rfl (by omega) hml w3 ndl hkl hN hnb.2.1 hnb.1 hok hnp.2.1 hl).mono ?_
      rintro e w' ⟨he, fb, hfb, hm, hb, hk⟩
      refine ⟨he, fb, hfb, ?_, hk.mono (fun i _ hi => ?_)⟩
      · unfold Tr.lay
        rw [if_pos hc', if_pos hs]
        refine ⟨hb, hm, hmr.kp hk (fun b hb2 h => ?_)⟩
        rcases h with h | h | h
        · exact hdis b h b hb2 rfl
        · subst h; exact hnb.2.2 hb2
        · subst h; exact hkr hb2
      · rcases hi with h | h | h
        · left; simp [Tr.blks, h]
        · right; exact h
        · left; simp [Tr.blks, h]
    · refine (layAt w kb nb nx 1 kp np (enNd kp ku kx kl kr) kr hB rfl hs rfl (by omega) hmr w4 ndr hkr hN hnb.2.2 hnb.1 hok hnp.2.2 hr).mono ?_
      rintro e w' ⟨he, fb, hfb, hm, hb, hk⟩
      refine ⟨he, fb, hfb, ?_, hk.mono (fun i _ hi => ?_)⟩
      · unfold Tr.lay
        rw [if_pos hc', if_neg (by omega)]
        refine ⟨hb, hml.kp hk (fun b hb2 h => ?_), hm⟩
        rcases h with h | h | h
        · exact hdis b hb2 b h rfl
        · subst h; exact hnb.2.1 hb2
        · subst h; exact hkl hb2
      · rcases hi with h | h | h
        · left; simp [Tr.blks, h]
        · right; exact h
        · left; simp [Tr.blks, h]
theorem Tr.at_mem {T : Tr} {p : Px} {b : Nat} {u : Bool} {x : Nat} (h : T.at_ p = some (b, u, x)) : b ∈ T.blks := by
  induction T with
  | nil => cases h
  | node kb kp ku kx kl kr hl hr =>
    unfold Tr.at_ at h
    simp only [Tr.blks, List.mem_cons, List.mem_append]
    split at h
    · cases h; exact .inl rfl
    · split at h
      · cases h
      · split at h
        · exact .inr (.inl (hl h))
        · exact .inr (.inr (hr h))
theorem TrM.at_ {w : World} {T : Tr} {p : Px} {b : Nat} {u : Bool} {x : Nat} (hM : TrM w T) (h : T.at_ p = some (b, u, x)) : ∃ l r, Blk w b (enNd p u x l r) ndT := by
  induction T with
  | nil => cases h
  | node kb kp ku kx kl kr hl hr =>
    obtain ⟨h1, h2, h3⟩ := hM
    unfold Tr.at_ at h
    split at h
    · rename_i e; cases h; subst e; exact ⟨_, _, h1⟩
    · split at h
      · cases h
      · split at h
        · exact hl h2 h
        · exact hr h3 h
theorem Tr.put_ptr (T : Tr) (p : Px) (y : Nat) : (T.put_ p y).ptr = T.ptr := by
  cases T with
  | nil => rfl
  | node kb kp ku kx kl kr =>
    unfold Tr.put_
    split
    · rfl
    · split <;> rfl
theorem put_mem {w w' : World} {T : Tr} {p : Px} {b : Nat} {u : Bool} {y x : Nat} (hM : TrM w T) (hnd : T.blks.Nodup) (h : T.at_ p = some (b, u, y)) (hk : Kp (fun i => i = b) w w')
    (hb : ∀ cs, Blk w b cs ndT → Blk w' b ((cs.set 2 (.bool true)).set 3 (.int .u64 x)) ndT) : TrM w' (T.put_ p x) := by
  induction T with
  | nil => cases h
  | node kb kp ku kx kl kr hl hr =>
    obtain ⟨h1, h2, h3⟩ := hM
    simp only [Tr.blks, List.nodup_cons, List.mem_append, not_or, List.nodup_append] at hnd
    obtain ⟨⟨hkl, hkr⟩, ndl, ndr, hdis⟩ := hnd
    unfold Tr.at_ at h
    unfold Tr.put_
    split at h
    · rename_i e
      cases h
      rw [if_pos e]
      exact ⟨hb _ h1, h2.kp hk (fun i hi e => hkl (e ▸ hi)), h3.kp hk (fun i hi e => hkr (e ▸ hi))⟩
    · rename_i e
      rw [if_neg e]
      split at h
      · cases h
      · split at h
        · rename_i hs
          rw [if_pos hs]
          have hin := Tr.at_mem h
          refine ⟨?_, hl h2 ndl h, h3.kp hk (fun i hi e => hdis b hin i hi e.symm)⟩
          unfold enNd; rw [Tr.put_ptr]
          exact h1.kp hk (fun e => hkl (e ▸ hin))
        · rename_i hs
          rw [if_neg hs]
          have hin := Tr.at_mem h
          refine ⟨?_, h2.kp hk (fun i hi e => hdis i hi b hin e), hr h3 ndr h⟩
          unfold enNd; rw [Tr.put_ptr]
          exact h1.kp hk (fun e => hkr (e ▸ hin))
abbrev tbT : TypeId := 269
structure TabM (w : World) (base tb : Nat) (T : Tr) (n : Nat) : Prop where
  blk : Blk w tb [T.ptr, .int .i64 n] tbT
  mem : TrM w T
  wf : T.WF
  nd : T.blks.Nodup
  out : tb ∉ T.blks
  low : ∀ b ∈ T.blks, base ≤ b
  tlow : base ≤ tb
  blow : base ≤ w.heap.size
  root : ∀ p, okP p → covTop T p
theorem TabM.old {w w' : World} {base tb n : Nat} {T : Tr} (h : TabM w base tb T n) (k : Kp none' w w') : TabM w' base tb T n :=
  ⟨h.blk.kp k (fun x => x), h.mem.old k, h.wf, h.nd, h.out, h.low, h.tlow, Nat.le_trans h.blow k.size, h.root⟩
theorem cov_root {p : Px} (hp : okP p) : covP (0, 0) p = true := by
  rw [cov_iff]
  refine ⟨hp.1, Nat.zero_le _, has_iff.2 ⟨right_iff.2 ⟨by decide, by simp⟩, ?_⟩⟩
  have := hp.2
  show p.1 / 4294967296 = 0 / 4294967296
  omega
theorem covTop_lay {T : Tr} {np : Px} (h : covTop T np) (nb nx fb : Nat) (q : Px) : covTop (T.lay nb np nx fb) q = covTop T q := by
  cases T with
  | nil => exact h.elim
  | node kb kp ku kx kl kr =>
    have h' : covP kp np = true := h
    unfold Tr.lay
    rw [if_pos h']
    split <;> rfl
theorem covTop_put (T : Tr) (p : Px) (x : Nat) (q : Px) : covTop (T.put_ p x) q = covTop T q := by
  cases T with
  | nil => rfl
  | node kb kp ku kx kl kr =>
    unfold Tr.put_
    split
    · rfl
    · split <;> rfl
theorem lay_ptr' {T : Tr} {np : Px} (h : covTop T np) (nb nx fb : Nat) : (T.lay nb np nx fb).ptr = T.ptr := by
  cases T with
  | nil => exact h.elim
  | node kb kp ku kx kl kr => exact lay_ptr h nb nx fb
theorem atP_none {T : Tr} {p : Px} (h : T.at_ p = none) : atP T p = .pointer none := by unfold atP; rw [h]
theorem atP_some {T : Tr} {p : Px} {b : Nat} {u : Bool} {y : Nat} (h : T.at_ p = some (b, u, y)) : atP T p = .pointer (some ⟨b, 0, none⟩) := by unfold atP; rw [h]
theorem TabM.laid {w2 w' : World} {base tb n n' x fb : Nat} {T : Tr} {p : Px} (h : TabM w2 base tb T n) (hp : okP p) (ha : T.at_ p = none) (hfb : w2.heap.size + 1 ≤ fb) (hb : Blk w' tb [T.ptr, .int .i64 n'] tbT) (hm : TrM w' (T.lay w2.heap.size p x fb)) (hs : w2.heap.size ≤ w'.heap.size) : TabM w' base tb (T.put w2.heap.size p x fb) n' := by
  have e : T.put w2.heap.size p x fb = T.lay w2.heap.size p x fb := by unfold Tr.put; rw [ha]
  rw [e]
  have hnp : p ∉ T.prs := fun hm => by
    obtain ⟨b, u, y, h1, _⟩ := Tr.at_some h.wf hm
    rw [ha] at h1; cases h1
  have hlt := h.mem.lt
  have htb := h.blk.lt
  obtain ⟨F, hF, hperm⟩ := Tr.lay_blks T p w2.heap.size x fb
  have hin : ∀ b, b ∈ (T.lay w2.heap.size p x fb).blks → b = fb ∨ b = w2.heap.size ∨ b ∈ T.blks := fun b hb => by
    have := hperm.mem_iff.1 hb
    rw [List.mem_append, List.mem_cons] at this
    rcases this with h1 | h1 | h1
    · left; rcases hF with rfl | rfl
      · cases h1
      · simpa using h1
    · exact .inr (.inl h1)
    · exact .inr (.inr h1)
  refine ⟨by rw [lay_ptr' (h.root p hp)]; exact hb, hm, Tr.lay_wf h.wf hp hnp _ _ _, ?_, ?_, ?_, h.tlow, Nat.le_trans h.blow hs, fun q hq => by rw [covTop_lay (h.root p hp)]; exact h.root q hq⟩
  · rw [hperm.nodup_iff]
    have h1 : (w2.heap.size :: T.blks).Nodup := List.nodup_cons.2 ⟨fun hb => Nat.lt_irrefl _ (hlt _ hb), h.nd⟩
    rcases hF with rfl | rfl
    · exact h1
    · refine List.nodup_cons.2 ⟨fun hb => ?_, h1⟩
      rcases List.mem_cons.1 hb with h2 | h2
      · omega
      · have := hlt _ h2; omega
  · intro hb
    rcases hin _ hb with h1 | h1 | h1
    · omega
    · omega
    · exact h.out h1
  · intro b hb
    have := h.blow
    rcases hin _ hb with h1 | h1 | h1
    · omega
    · omega
    · exact h.low b h1
theorem TabM.put_ {w2 w' : World} {base tb n n' x nb fb b y : Nat} {T : Tr} {p : Px} (h : TabM w2 base tb T n) (ha : T.at_ p = some (b, false, y)) (hb : Blk w' tb [T.ptr, .int .i64 n'] tbT) (hm : TrM w' (T.put_ p x)) (hs : w2.heap.size ≤ w'.heap.size) : TabM w' base tb (T.put nb p x fb) n' := by
  have e : T.put nb p x fb = T.put_ p x := by unfold Tr.put; rw [ha]
  rw [e]
  exact ⟨by rw [Tr.put_ptr]; exact hb, hm, Tr.put_wf h.wf _ _, by rw [Tr.put_blks]; exact h.nd, by rw [Tr.put_blks]; exact h.out, by rw [Tr.put_blks]; exact h.low, h.tlow, Nat.le_trans h.blow hs, fun q hq => by rw [covTop_put]; exact h.root q hq⟩
theorem TabM.count {w : World} {base tb n : Nat} {T : Tr} (h : TabM w base tb T n) : TabM (w.setCell ⟨tb, 1, none⟩ (.int .i64 ((n : Int) + 1))) base tb T (n + 1) := by
  have hks : Kp (fun i => i = tb) w (w.setCell ⟨tb, 1, none⟩ (.int .i64 ((n : Int) + 1))) := (Kp.refl (fun i => i = tb) w).set (p := ⟨tb, 1, none⟩) (.inl rfl) _
  exact ⟨h.blk.set 1 _, h.mem.kp hks (fun b hb e => h.out (e ▸ hb)), h.wf, h.nd, h.out, h.low, h.tlow, Nat.le_trans h.blow hks.size, h.root⟩
set_option maxRecDepth 100000 in
set_option maxHeartbeats 8000000 in
theorem tPut (w : World) (base tb n x : Nat) (T : Tr) (h : TabM w base tb T n) (p : Px) (hp : okP p) (hn : n < 4096) :
    Calls Tryz.prog 119 #[.pointer (some ⟨tb, 0, none⟩), .agg #[.int .u32 p.1, .int .i64 p.2], .int .u64 x] w fun e w' => ∃ c nb fb n', e = .returned (.int .i64 c) ∧ n' ≤ n + 1 ∧ TabM w' base tb (T.put nb p x fb) n' ∧ Kp (fun b => base ≤ b) w w' := by
  have hk1 := (Kp.refl none' w).alloc (.cells #[.int .u32 p.1, .int .i64 p.2] 88)
  have hb1 : Blk (w.alloc (.cells #[.int .u32 p.1, .int .i64 p.2] 88)) w.heap.size [.int .u32 p.1, .int .i64 p.2] 88 := Blk.new w [.int .u32 p.1, .int .i64 p.2] _
  have h32 := (right_iff.1 hp.1).1
  have HR := Lib.hid (fun W => aRight p.1 p.2 W hp.2 (by omega))
  rw [show rightB p.1 p.2 = true from hp.1] at HR
  have H1 := Lib.hid (h.old hk1)
  have HF := Lib.hid (tFindP (w.alloc (.cells #[.int .u32 p.1, .int .i64 p.2] 88)) tb T n (h.old hk1).blk (h.old hk1).mem h.wf p hp)
  obtain ⟨q, hq⟩ : ∃ q, T.ptr = .pointer (some ⟨q, 0, none⟩) := by
    have := h.root p hp
    cases T with
    | nil => exact this.elim
    | node kb kp ku kx kl kr => exact ⟨kb, rfl⟩
  have c0 := (h.old hk1).blk.cell 0 rfl
  rw [hq] at c0
  have q0 := hb1.cell 0 rfl
  have q1 := hb1.cell 1 rfl
  have HT := Lib.hid h
  have HB := Lib.hid hb1
  have HQ := Lib.hid hq
  clear h hk1 hb1 hq
  rcases ha : T.at_ p with _ | ⟨b, u, y⟩
  · rw [atP_none ha] at HF
    have HA := Lib.hid ha
    clear ha
    go_enter Tryz.func119, Tryz.ntmps119
    go_wp2_with (first
      | (go_at_call 136; refine HF.out.mono ?_; rintro e w1 ⟨rfl, hk1⟩
         have HT1 := Lib.hid (H1.out.old hk1); have HB1 := Lib.hid (HB.out.kp hk1 (fun x => x))
         have c0 := hk1.cell c0 (fun x => x); have q0 := hk1.cell q0 (fun x => x); have q1 := hk1.cell q1 (fun x => x)
         have HK1 := Lib.hid hk1; clear hk1)
      | (go_at_call 92; refine (HR.out _).mono ?_; rintro e w2 ⟨rfl, hk2⟩
         have HT2 := Lib.hid (HT1.out.old hk2); have HB2 := Lib.hid (HB1.out.kp hk2 (fun x => x))
         have c0 := hk2.cell c0 (fun x => x); have q0 := hk2.cell q0 (fun x => x); have q1 := hk2.cell q1 (fun x => x)
         have c1 := HT2.out.blk.cell 1 rfl
         have HK2 := Lib.hid hk2; clear hk2))
    have hcov := HT2.out.root p hp
    have hnp : p ∉ T.prs := fun hm => by
      obtain ⟨b, u, y, h1, _⟩ := Tr.at_some HT2.out.wf hm
      rw [HA.out] at h1; cases h1
    have HL := Lib.hid (fun W (k : Kp none' w2 W) (hb : Blk W w2.heap.size (enNd p true x .nil .nil) ndT) => layOk T W w2.heap.size p x hcov (HT2.out.mem.old k) HT2.out.wf HT2.out.nd hb (fun hb => Nat.lt_irrefl _ (HT2.out.mem.lt _ hb)) hp hnp)
    rw [HQ.out] at HL
    have htb : tb ≠ w2.heap.size := Nat.ne_of_lt HT2.out.blk.lt
    clear hnp hcov
    go_region_held3 (fun w' => w'.cell? ⟨tb, 0, none⟩ = some (.pointer (some ⟨q, 0, none⟩)) ∧ w'.cell? ⟨w.heap.size, 0, none⟩ = some (.int .u32 p.1) ∧ w'.cell? ⟨w.heap.size, 1, none⟩ = some (.int .i64 p.2)) (go_keep)
      ((go_at_call 137
        refine (HL.out _ ((Kp.refl none' w2).alloc _).drew (Blk.new w2 (enNd p true x .nil .nil) ndT).drew).mono ?_
        rintro e w5 ⟨rfl, fb, hfb, hm5, hk5⟩
        have hk25 : Kp (fun b => b ∈ T.blks) w2 w5 := (((Kp.refl (fun b => b ∈ T.blks) w2).alloc _).drew).then hk5 (fun i hi e => e.elim (fun h => h) (fun e => absurd e (Nat.ne_of_lt hi)))
        have hb5 := HT2.out.blk.kp hk25 HT2.out.out
        have e0 := hb5.cell 0 (show some T.ptr = _ by rw [HQ.out])
        have e1 := hb5.cell 1 rfl
        have y1 := hb5.fz 1
        have hbx := HB2.out.kp hk25 (fun hb => Nat.lt_irrefl _ (HT.out.mem.lt _ hb))
        have e2 := hbx.cell 0 rfl
        have e3 := hbx.cell 1 rfl
        clear hbx
        have HM5 := Lib.hid hm5; have HK25 := Lib.hid hk25; have HFB := Lib.hid hfb; have HB5 := Lib.hid hb5; clear hm5 hk25 hfb hb5 hk5))
    have hw : IntKind.i64.wrap ((n : Int) + 1) = (n : Int) + 1 := by rw [IntKind.wrap_i64]; omega
    go_wp2_with fail
    go_ret
    have hf : w2.heap.size + 1 ≤ fb := by have := HFB.out; rwa [show (w2.alloc (.cells (enNd p true x .nil .nil).toArray ndT)).drew.heap.size = w2.heap.size + 1 from World.size_alloc _ _] at this
    have hM := HT2.out.laid (n' := n) hp HA.out hf HB5.out HM5.out HK25.out.size
    refine ⟨0, w2.heap.size, fb, n + 1, rfl, Nat.le_refl _, hM.count, ?_⟩
    have k02 : Kp none' w w2 := (((Kp.refl none' w).alloc _).trans HK1.out).trans HK2.out
    exact ((k02.mono (T := fun b => base ≤ b) (fun _ _ x => x.elim)).trans (HK25.out.mono (fun i _ hi => HT2.out.low i hi))).set (p := ⟨tb, 1, none⟩) (.inl HT2.out.tlow) _
  · have hb2 := TrM.at_ HT.out.mem ha
    obtain ⟨l, r, hb2⟩ := hb2
    have HN := Lib.hid hb2
    rw [atP_some ha] at HF
    have HA := Lib.hid ha
    have hba := Tr.at_mem ha
    have hbl := HT.out.mem.lt b hba
    have hbt : b ≠ tb := fun e => HT.out.out (e ▸ hba)
    clear hb2 ha hba
    cases u with
    | true =>
      go_enter Tryz.func119, Tryz.ntmps119
      go_wp2_with (first
        | (go_at_call 136; refine HF.out.mono ?_; rintro e w1 ⟨rfl, hk1⟩
           have HT1 := Lib.hid (H1.out.old hk1); have HB1 := Lib.hid (HB.out.kp hk1 (fun x => x))
           have q0 := hk1.cell q0 (fun x => x); have q1 := hk1.cell q1 (fun x => x)
           have HN1 := Lib.hid ((HN.out.alloc (.cells #[.int .u32 p.1, .int .i64 p.2] 88)).kp hk1 (fun x => x))
           have HK1 := Lib.hid (((Kp.refl none' w).alloc _).trans hk1); clear hk1 c0)
        | (go_at_call 92; refine (HR.out _).mono ?_; rintro e w2 ⟨rfl, hk2⟩
           have HT2 := Lib.hid (HT1.out.old hk2); have HN2 := Lib.hid (HN1.out.kp hk2 (fun x => x))
           have n1 := HN2.out.cell 2 rfl
           have HK2 := Lib.hid (HK1.out.trans hk2); clear hk2 q0 q1))
      go_ret
      have e : T.put 0 p x 0 = T := by unfold Tr.put; rw [HA.out]
      exact ⟨8, 0, 0, n, rfl, by omega, by rw [e]; exact HT2.out, HK2.out.mono (fun _ _ x => x.elim)⟩
    | false =>
      go_enter Tryz.func119, Tryz.ntmps119
      have hw : IntKind.i64.wrap ((n : Int) + 1) = (n : Int) + 1 := by rw [IntKind.wrap_i64]; omega
      go_wp2_with (first
        | (go_at_call 136; refine HF.out.mono ?_; rintro e w1 ⟨rfl, hk1⟩
           have HT1 := Lib.hid (H1.out.old hk1); have HB1 := Lib.hid (HB.out.kp hk1 (fun x => x))
           have q0 := hk1.cell q0 (fun x => x); have q1 := hk1.cell q1 (fun x => x)
           have HN1 := Lib.hid ((HN.out.alloc (.cells #[.int .u32 p.1, .int .i64 p.2] 88)).kp hk1 (fun x => x))
           have HK1 := Lib.hid (((Kp.refl none' w).alloc _).trans hk1); clear hk1 c0)
        | (go_at_call 92; refine (HR.out _).mono ?_; rintro e w2 ⟨rfl, hk2⟩
           have HT2 := Lib.hid (HT1.out.old hk2); have HN2 := Lib.hid (HN1.out.kp hk2 (fun x => x))
           have n1 := HN2.out.cell 2 rfl
           have n2 := HN2.out.cell 3 rfl
           have z1 := HN2.out.fz 2
           have z2 := HN2.out.fz 3
           have c1 := HT2.out.blk.cell 1 rfl
           have y1 := HT2.out.blk.fz 1
           have HK2 := Lib.hid (HK1.out.trans hk2); clear hk2 q0 q1))
      go_ret
      have hks : Kp (fun i => i = b) w2 ((w2.setCell ⟨b, 2, none⟩ (.bool true)).setCell ⟨b, 3, none⟩ (.int .u64 x)) := ((Kp.refl (fun i => i = b) w2).set (p := ⟨b, 2, none⟩) (.inl rfl) _).set (p := ⟨b, 3, none⟩) (.inl rfl) _
      have hM := HT2.out.put_ (nb := 0) (fb := 0) (x := x) HA.out (HT2.out.blk.kp hks (fun e => hbt e.symm)) (put_mem HT2.out.mem HT2.out.nd HA.out hks (fun cs hb => (hb.set 2 _).set 3 _)) hks.size
      refine ⟨0, 0, 0, n + 1, rfl, Nat.le_refl _, hM.count, ?_⟩
      exact ((HK2.out.mono (T := fun b => base ≤ b) (fun _ _ x => x.elim)).trans (hks.mono (fun i _ hi => by subst hi; exact HT2.out.low _ (Tr.at_mem HA.out)))).set (p := ⟨tb, 1, none⟩) (.inl HT2.out.tlow) _
set_option maxRecDepth 100000 in
theorem tNew (w : World) : Calls Tryz.prog 117 #[] w fun e w' => ∃ tb T, e = .returned (.pointer (some ⟨tb, 0, none⟩)) ∧ TabM w' w.heap.size tb T 0 ∧ Kp none' w w' ∧ ∃ b, T = .node b (0, 0) false 0 .nil .nil := by
  go_enter Tryz.func117, Tryz.ntmps117
  go_wp2
  go_ret
  have hn : Blk (w.alloc (.cells (enNd (0, 0) false 0 .nil .nil).toArray ndT)) w.heap.size (enNd (0, 0) false 0 .nil .nil) ndT := Blk.new w (enNd (0, 0) false 0 .nil .nil) ndT
  have hb := Blk.new (w.alloc (.cells (enNd (0, 0) false 0 .nil .nil).toArray ndT)) [.pointer (some ⟨w.heap.size, 0, none⟩), .int .i64 ((0 : Nat) : Int)] tbT
  rw [World.size_alloc] at hb
  refine ⟨w.heap.size + 1, .node w.heap.size (0, 0) false 0 .nil .nil, rfl, ?_, ((Kp.refl none' w).alloc _).alloc _, w.heap.size, rfl⟩
  refine ⟨hb, ⟨hn.alloc _, trivial, trivial⟩, (TreeAt.start [] w.heap.size).wf, by simp [Tr.blks], by simp [Tr.blks], by simp [Tr.blks], by omega, ?_, fun p hp => cov_root hp⟩
  rw [World.size_alloc, World.size_alloc]; omega

def enR7 (r : RuN) : List Value := [.int .u32 r.s.1, .int .i64 r.s.2, .int .u32 r.d.1, .int .i64 r.d.2, .int .u16 r.lo, .int .u16 r.hi, .int .u32 r.fl]
theorem enR7_len (r : RuN) : (enR7 r).length = 7 := rfl
def pSrc (r : RuN) : Nat × Int := r.s
def pDst (r : RuN) : Nat × Int := r.d
set_option maxRecDepth 100000 in
theorem cSrc (s d : Nat × Int) (lo hi fl : Nat) (w : World) : Calls Tryz.prog 89 #[.agg #[.int .u32 s.1, .int .i64 s.2, .int .u32 d.1, .int .i64 d.2, .int .u16 lo, .int .u16 hi, .int .u32 fl]] w fun e w' => e = .returned (.agg #[.int .u32 s.1, .int .i64 s.2]) ∧ Kp none' w w' := by
  have hb := (Blk.new (w.alloc (.cells #[.int .u32 s.1, .int .i64 s.2, .int .u32 d.1, .int .i64 d.2, .int .u16 lo, .int .u16 hi, .int .u32 fl] 160)) [.int .u32 s.1, .int .i64 s.2] 88)
  rw [World.size_alloc] at hb
  have HB := Lib.hid hb
  clear hb
  go_enter Tryz.func89, Tryz.ntmps89
  go_wp2
  refine ret_row1 (by rfl) HB.out _ Tryz.underlying88 rfl (by kernel_rfl) (by rfl) ?_
  exact ⟨rfl, ((Kp.refl none' w).alloc _).alloc _⟩
set_option maxRecDepth 100000 in
theorem cDst (s d : Nat × Int) (lo hi fl : Nat) (w : World) : Calls Tryz.prog 90 #[.agg #[.int .u32 s.1, .int .i64 s.2, .int .u32 d.1, .int .i64 d.2, .int .u16 lo, .int .u16 hi, .int .u32 fl]] w fun e w' => e = .returned (.agg #[.int .u32 d.1, .int .i64 d.2]) ∧ Kp none' w w' := by
  have hb := (Blk.new (w.alloc (.cells #[.int .u32 s.1, .int .i64 s.2, .int .u32 d.1, .int .i64 d.2, .int .u16 lo, .int .u16 hi, .int .u32 fl] 160)) [.int .u32 d.1, .int .i64 d.2] 88)
  rw [World.size_alloc] at hb
  have HB := Lib.hid hb
  clear hb
  go_enter Tryz.func90, Tryz.ntmps90
  go_wp2
  refine ret_row1 (by rfl) HB.out _ Tryz.underlying88 rfl (by kernel_rfl) (by rfl) ?_
  exact ⟨rfl, ((Kp.refl none' w).alloc _).alloc _⟩
theorem wrap_pow (b : Nat) (hb : b < 64) : IntKind.u64.wrap ((2 : Int) ^ b) = ((2 ^ b : Nat) : Int) := by
  have h : 2 ^ b < 2 ^ 64 := Nat.pow_lt_pow_right (by decide) hb
  rw [IntKind.wrap_u64]
  have e : (2 : Int) ^ b = ((2 ^ b : Nat) : Int) := by simp
  rw [e]
  generalize 2 ^ b = y at *
  omega
theorem bits_step {f : Nat → Bool} {k : Nat} (hk : k < 64) (h : f k = true) : bits BinOp.or IntKind.u64 ((bitsOf f k : Nat) : Int) (IntKind.u64.wrap ((2 : Int) ^ k)) = ((bitsOf f (k + 1) : Nat) : Int) := by
  rw [wrap_pow k hk]
  have e : bitsOf f (k + 1) = bitsOf f k ||| 2 ^ k := by simp only [bitsOf, h]
  rw [e]
  exact bits_or_u64_nat _ _ (Nat.lt_of_lt_of_le (bitsOf_lt f k) (Nat.pow_le_pow_right (by decide) (Nat.le_of_lt hk))) (Nat.pow_lt_pow_right (n := 64) (by decide) hk)
theorem bits_skip {f : Nat → Bool} {k : Nat} (h : f k = false) : bitsOf f (k + 1) = bitsOf f k := by simp [bitsOf, h]

theorem pSrcOk {r : RuN} (h : r.Ok) : pfOk (pSrc r) := h.s
theorem px_getSrc (l : List RuN) {j : Nat} (h : j < l.length) : (l.map (fun r => pxOf (pSrc r))).getD j (0, 0) = pxOf (pSrc l[j]) := by
  rw [getD_at _ (by simpa using h)]; simp
structure PISrc (w wr : World) (l : List RuN) (v : Value) (tb n j : Nat) (T : Tr) : Prop where
  tab : TabM wr w.heap.size tb T n
  at_ : TreeAt (l.map (fun r => pxOf (pSrc r))) j T
  kp : Kp none' w wr
  n_le : n ≤ j
theorem PISrc.old {w wr w' : World} {l : List RuN} {v : Value} {tb n j : Nat} {T : Tr} (h : PISrc w wr l v tb n j T) (k : Kp none' wr w') : PISrc w w' l v tb n j T := ⟨h.tab.old k, h.at_, h.kp.trans k, h.n_le⟩
set_option maxRecDepth 100000 in
set_option maxHeartbeats 8000000 in
theorem prefixesSrc (l : List RuN) (hok : ∀ r ∈ l, r.Ok) (hr : ∀ r ∈ l, rightB (pSrc r).1 (pSrc r).2 = true) (hn : l.length ≤ 64) (v : Value) (w : World) (h : Sl w v l.length 7 (l.flatMap enR7)) :
    Calls Tryz.prog 88 #[v, .func (.func 89) #[] #[]] w fun e w' => ∃ tb T n, e = .returned (.pointer (some ⟨tb, 0, none⟩)) ∧ TabM w' w.heap.size tb T n ∧ TreeOf (l.map (fun r => pxOf (pSrc r))) T ∧ Kp none' w w' := by
  obtain ⟨ao, cap, rfl⟩ : ∃ ao cap, v = .slice ao l.length cap := by obtain ⟨ao, cap, rfl, _⟩ := h.is; exact ⟨_, _, rfl⟩
  have HS := Lib.hid h
  have HO := Lib.hid hok; have HR := Lib.hid hr
  have HNW := Lib.hid (fun W => tNew W)
  clear h hok hr
  go_enter Tryz.func88, Tryz.ntmps88
  go_wp2_with (go_at_call 117; refine (HNW.out _).mono ?_; rintro e w1 ⟨tb, T, rfl, hT, hk1, b1, hb1⟩
               have HP : Hid (PISrc w w1 l (.slice ao l.length cap) tb 0 0 T) := ⟨hT, by rw [hb1]; exact TreeAt.start _ _, hk1, Nat.le_refl _⟩
               clear hT hk1 hb1)
  go_loopw [14] (fun i wr => ∃ (j n : Nat) (T : Tr), i = .int .i64 j ∧ j ≤ l.length ∧ Hid (PISrc w wr l (.slice ao l.length cap) tb n j T)) (fun i _ => l.length - (intOf i).toNat)
  case atStart => exact ⟨0, 0, T, rfl, Nat.zero_le _, HP.out⟩
  case round =>
    clear HP
    obtain ⟨j, n, T1, rfl, hj, HI⟩ := hrel
    obtain ⟨wo, hwo⟩ : ∃ wo : World, wo = wr := ⟨_, rfl⟩
    subst hwo
    by_cases hlt : j < l.length
    · obtain ⟨g, off, cap', e1, hc⟩ := (HS.out.old HI.out.kp).at enR7_len (by decide) j hlt
      injection e1 with e1 _ e3
      subst e1 e3
      have hji : (j : Int) < l.length := by omega
      obtain ⟨r, hrr⟩ : ∃ r, l[j] = r := ⟨_, rfl⟩
      have hmem : r ∈ l := by rw [← hrr]; exact List.getElem_mem hlt
      rw [hrr] at hc
      have c0 : wo.cell? ⟨g, off + j * 7, none⟩ = some (.int .u32 r.s.1) := hc 0 _ rfl
      have c1 := hc 1 _ rfl
      have c2 := hc 2 _ rfl
      have c3 := hc 3 _ rfl
      have c4 := hc 4 _ rfl
      have c5 := hc 5 _ rfl
      have c6 := hc 6 _ rfl
      have HRR := Lib.hid hrr; have HM := Lib.hid hmem
      have hRl := (pxOf_ok (HR.out r hmem) (pSrcOk (HO.out r hmem)))
      have HRP := Lib.hid hRl
      have HGJ := Lib.hid (px_getSrc l (j := j) hlt |>.trans (by rw [hrr]))
      clear hc hrr hmem hRl
      go_wp2_with fail
      have hK0 : Kp none' wo (wo.alloc (.cells #[.int .u32 r.s.1, .int .i64 r.s.2, .int .u32 r.d.1, .int .i64 r.d.2, .int .u16 r.lo, .int .u16 r.hi, .int .u32 r.fl] 160)) := (Kp.refl none' wo).alloc _
      have hB7 : Blk (wo.alloc (.cells #[.int .u32 r.s.1, .int .i64 r.s.2, .int .u32 r.d.1, .int .i64 r.d.2, .int .u16 r.lo, .int .u16 r.hi, .int .u32 r.fl] 160)) wo.heap.size (enR7 r) 160 := Blk.new wo (enR7 r) _
      obtain ⟨W0, hW0⟩ : ∃ W, wo.alloc (.cells #[.int .u32 r.s.1, .int .i64 r.s.2, .int .u32 r.d.1, .int .i64 r.d.2, .int .u16 r.lo, .int .u16 r.hi, .int .u32 r.fl] 160) = W := ⟨_, rfl⟩
      obtain ⟨g7, hg7⟩ : ∃ g, wo.heap.size = g := ⟨_, rfl⟩
      rw [hW0] at hK0 hB7 ⊢
      rw [hg7] at hB7 ⊢
      have HB7 := Lib.hid hB7; have HI0 := Lib.hid (HI.out.old hK0)
      obtain ⟨f, hf⟩ : ∃ f : Nat → Bool, f = fun i => covP ((l.map (fun r => pxOf (pSrc r))).getD i (0, 0)) (pxOf (pSrc r)) := ⟨_, rfl⟩
      have HF := Lib.hid hf
      have HCR : Hid (∀ W, Calls Tryz.prog 89 #[.agg #[.int .u32 r.s.1, .int .i64 r.s.2, .int .u32 r.d.1, .int .i64 r.d.2, .int .u16 r.lo, .int .u16 r.hi, .int .u32 r.fl]] W fun e w' => e = .returned (.agg #[.int .u32 (pSrc r).1, .int .i64 (pSrc r).2]) ∧ Kp none' W w') := fun W => cSrc r.s r.d r.lo r.hi r.fl W
      clear hW0 hg7 hK0 hB7 hf c0 c1 c2 c3 c4 c5 c6
      go_loopw [8, 20] (fun m i wr => ∃ k : Nat, i = .int .i64 k ∧ k ≤ l.length ∧ m = .int .u64 (bitsOf f k : Nat) ∧ Hid (Kp none' W0 wr)) (fun _ i _ => l.length - (intOf i).toNat)
      case atStart => exact ⟨0, rfl, Nat.zero_le _, rfl, Kp.refl _ _⟩
      case round =>
        obtain ⟨k, rfl, hk, rfl, HK⟩ := hrel
        by_cases hkl : k < l.length
        · obtain ⟨g, off, cap2, e1, hc⟩ := (HS.out.old (HI0.out.kp.trans HK.out)).at enR7_len (by decide) k hkl
          injection e1 with e1 _ e3
          cases e1
          subst e3
          have hki : (k : Int) < l.length := by omega
          have hk64 : k < 64 := by omega
          obtain ⟨o, ho⟩ : ∃ o, l[k] = o := ⟨_, rfl⟩
          have hom : o ∈ l := by rw [← ho]; exact List.getElem_mem hkl
          rw [ho] at hc
          have c0 : wr.cell? ⟨g, off + k * 7, none⟩ = some (.int .u32 o.s.1) := hc 0 _ rfl
          have c1 := hc 1 _ rfl
          have c2 := hc 2 _ rfl
          have c3 := hc 3 _ rfl
          have c4 := hc 4 _ rfl
          have c5 := hc 5 _ rfl
          have c6 := hc 6 _ rfl
          have HOP := Lib.hid (pxOf_ok (HR.out o hom) (pSrcOk (HO.out o hom)))
          have HGK := Lib.hid (px_getSrc l (j := k) hkl |>.trans (by rw [ho]))
          have hfk : f k = covB (pSrc o).1 (pSrc o).2 (pSrc r).1 (pSrc r).2 := by
            rw [HF.out]
            show covP ((l.map (fun r => pxOf (pSrc r))).getD k (0, 0)) (pxOf (pSrc r)) = _
            rw [HGK.out]
            unfold covP
            rw [HOP.out.2, HRP.out.2]; rfl
          have bo := pSrcOk (HO.out o hom)
          have HCO : Hid (∀ W, Calls Tryz.prog 89 #[.agg #[.int .u32 o.s.1, .int .i64 o.s.2, .int .u32 o.d.1, .int .i64 o.d.2, .int .u16 o.lo, .int .u16 o.hi, .int .u32 o.fl]] W fun e w' => e = .returned (.agg #[.int .u32 (pSrc o).1, .int .i64 (pSrc o).2]) ∧ Kp none' W w') := fun W => cSrc o.s o.d o.lo o.hi o.fl W
          have HCV := Lib.hid (fun W => aCovers (pSrc o).1 (pSrc r).1 (pSrc o).2 (pSrc r).2 W bo.1 (pSrcOk (HO.out r HM.out)).1 ⟨bo.2.1, bo.2.2⟩ (pSrcOk (HO.out r HM.out)).2)
          rw [← hfk] at HCV
          obtain ⟨b7, hb7⟩ : ∃ W, W = wr := ⟨_, rfl⟩
          subst hb7
          have HBR := Lib.hid (HB7.out.kp HK.out (fun x => x))
          have hk9 : Kp none' b7 (b7.alloc (.cells #[.int .u32 o.s.1, .int .i64 o.s.2, .int .u32 o.d.1, .int .i64 o.d.2, .int .u16 o.lo, .int .u16 o.hi, .int .u32 o.fl] 160)) := (Kp.refl none' b7).alloc _
          have hB9 : Blk (b7.alloc (.cells #[.int .u32 o.s.1, .int .i64 o.s.2, .int .u32 o.d.1, .int .i64 o.d.2, .int .u16 o.lo, .int .u16 o.hi, .int .u32 o.fl] 160)) b7.heap.size (enR7 o) 160 := Blk.new b7 (enR7 o) _
          have HBR9 := Lib.hid (HBR.out.kp hk9 (fun x => x))
          have HB9 := Lib.hid hB9; have HK9 := Lib.hid hk9
          have r0 := HBR9.out.cell 0 rfl
          have r1 := HBR9.out.cell 1 rfl
          have r2 := HBR9.out.cell 2 rfl
          have r3 := HBR9.out.cell 3 rfl
          have r4 := HBR9.out.cell 4 rfl
          have r5 := HBR9.out.cell 5 rfl
          have r6 := HBR9.out.cell 6 rfl
          have o0 := hB9.cell 0 rfl
          have o1 := hB9.cell 1 rfl
          have o2 := hB9.cell 2 rfl
          have o3 := hB9.cell 3 rfl
          have o4 := hB9.cell 4 rfl
          have o5 := hB9.cell 5 rfl
          have o6 := hB9.cell 6 rfl
          clear hk9 hB9 hc ho hom bo
          cases hfv : f k with
          | true =>
            have hor := bits_step hk64 hfv
            rw [hfv] at HCV
            obtain ⟨m, hm⟩ : ∃ m, bitsOf f k = m := ⟨_, rfl⟩
            obtain ⟨m', hm'⟩ : ∃ m, bitsOf f (k + 1) = m := ⟨_, rfl⟩
            rw [hm, hm'] at hor
            have HM' := Lib.hid hm'
            simp only [hm]
            clear hm hm' hfv hfk
            go_wp2_with fail
            refine wp_region_kept2 [] [0, 1, 2, 3, 4, 5] 6 (by kernel_rfl) (by kernel_rfl) (fun c a d u w h => by cases d <;> exact h) ?_
            simp only [pick, List.getElem?_cons_succ, List.getElem?_cons_zero, List.drop_succ_cons, List.drop_zero]
            show wpKL _ _ _ _ _ _
            repeat (first
              | (refine wpKL_op (by exact rfl) (by as_aux_lemma => intro W hK; have e0 := hK.cell r0 (fun x => x); have e1 := hK.cell r1 (fun x => x); have e2 := hK.cell r2 (fun x => x); have e3 := hK.cell r3 (fun x => x); have e4 := hK.cell r4 (fun x => x); have e5 := hK.cell r5 (fun x => x); have e6 := hK.cell r6 (fun x => x); have f0 := hK.cell o0 (fun x => x); have f1 := hK.cell o1 (fun x => x); have f2 := hK.cell o2 (fun x => x); have f3 := hK.cell o3 (fun x => x); have f4 := hK.cell o4 (fun x => x); have f5 := hK.cell o5 (fun x => x); have f6 := hK.cell o6 (fun x => x); go_simp; exact rfl) ?_; simp only [Act.put, List.setIfInBounds_toArray, List.set_cons_succ, List.set_cons_zero])
              | (refine wpKL_off (by exact rfl) ?_; simp only [Act.put, List.setIfInBounds_toArray, List.set_cons_succ, List.set_cons_zero])
              | (refine wpKL_call (by exact rfl) (by as_aux_lemma => intro W; go_simp; exact ⟨rfl, rfl⟩) (by intro W hK; with_reducible first | exact HCO.out W | exact HCR.out W) ?_; simp only [Act.put, List.setIfInBounds_toArray, List.set_cons_succ, List.set_cons_zero]))
            show ∀ W, _ → wpList _ _ _ _ _ _
            intro W5 hK5
            have HK5 := Lib.hid ((HK.out.trans HK9.out).trans hK5)
            clear hK5 r0 r1 r2 r3 r4 r5 r6 o0 o1 o2 o3 o4 o5 o6 c0 c1 c2 c3 c4 c5 c6 HCO
            go_wp2_with (go_at_call 118; refine (HCV.out _).mono ?_; rintro e w6 ⟨rfl, hk6⟩; have HK6 := Lib.hid (HK5.out.trans hk6); clear hk6)
            go_roundw
            case rel => exact ⟨k + 1, by go_num, by omega, by rw [HM'.out], HK6.out⟩
            case measure => simp [intOf]; omega
          | false =>
            have hsk := bits_skip hfv
            have HSK := Lib.hid hsk
            rw [hfv] at HCV
            obtain ⟨m, hm⟩ : ∃ m, bitsOf f k = m := ⟨_, rfl⟩
            have HM' := Lib.hid hm
            simp only [hm]
            clear hm hsk hfv hfk
            go_wp2_with fail
            refine wp_region_kept2 [] [0, 1, 2, 3, 4, 5] 6 (by kernel_rfl) (by kernel_rfl) (fun c a d u w h => by cases d <;> exact h) ?_
            simp only [pick, List.getElem?_cons_succ, List.getElem?_cons_zero, List.drop_succ_cons, List.drop_zero]
            show wpKL _ _ _ _ _ _
            repeat (first
              | (refine wpKL_op (by exact rfl) (by as_aux_lemma => intro W hK; have e0 := hK.cell r0 (fun x => x); have e1 := hK.cell r1 (fun x => x); have e2 := hK.cell r2 (fun x => x); have e3 := hK.cell r3 (fun x => x); have e4 := hK.cell r4 (fun x => x); have e5 := hK.cell r5 (fun x => x); have e6 := hK.cell r6 (fun x => x); have f0 := hK.cell o0 (fun x => x); have f1 := hK.cell o1 (fun x => x); have f2 := hK.cell o2 (fun x => x); have f3 := hK.cell o3 (fun x => x); have f4 := hK.cell o4 (fun x => x); have f5 := hK.cell o5 (fun x => x); have f6 := hK.cell o6 (fun x => x); go_simp; exact rfl) ?_; simp only [Act.put, List.setIfInBounds_toArray, List.set_cons_succ, List.set_cons_zero])
              | (refine wpKL_off (by exact rfl) ?_; simp only [Act.put, List.setIfInBounds_toArray, List.set_cons_succ, List.set_cons_zero])
              | (refine wpKL_call (by exact rfl) (by as_aux_lemma => intro W; go_simp; exact ⟨rfl, rfl⟩) (by intro W hK; with_reducible first | exact HCO.out W | exact HCR.out W) ?_; simp only [Act.put, List.setIfInBounds_toArray, List.set_cons_succ, List.set_cons_zero]))
            show ∀ W, _ → wpList _ _ _ _ _ _
            intro W5 hK5
            have HK5 := Lib.hid ((HK.out.trans HK9.out).trans hK5)
            clear hK5 r0 r1 r2 r3 r4 r5 r6 o0 o1 o2 o3 o4 o5 o6 c0 c1 c2 c3 c4 c5 c6 HCO
            go_wp2_with (go_at_call 118; refine (HCV.out _).mono ?_; rintro e w6 ⟨rfl, hk6⟩; have HK6 := Lib.hid (HK5.out.trans hk6); clear hk6)
            go_roundw
            case rel => exact ⟨k + 1, by go_num, by omega, by rw [HSK.out, HM'.out], HK6.out⟩
            case measure => simp [intOf]; omega
        · have hkn : k = l.length := by omega
          subst hkn
          have hset : bitsOf f l.length = setP (l.map (fun r => pxOf (pSrc r))) (pxOf (pSrc r)) := by rw [HF.out]; unfold setP; rw [List.length_map]
          have HI1 := Lib.hid (HI0.out.old HK.out)
          have HT := Lib.hid (fun W (k : Kp none' wr W) => tPut W w.heap.size tb n (setP (l.map (fun r => pxOf (pSrc r))) (pxOf (pSrc r))) T1 (HI1.out.tab.old k) (pxOf (pSrc r)) HRP.out.1 (by have := HI1.out.n_le; omega))
          have hpx : (pxOf (pSrc r)).1 = (pSrc r).1 := rfl
          rw [HRP.out.2, ← hset, hpx] at HT
          have HSET := Lib.hid hset
          have HBR := Lib.hid (HB7.out.kp HK.out (fun x => x))
          have r0 := HBR.out.cell 0 rfl
          have r1 := HBR.out.cell 1 rfl
          have r2 := HBR.out.cell 2 rfl
          have r3 := HBR.out.cell 3 rfl
          have r4 := HBR.out.cell 4 rfl
          have r5 := HBR.out.cell 5 rfl
          have r6 := HBR.out.cell 6 rfl
          clear hset hpx
          obtain ⟨m, hm⟩ : ∃ m, bitsOf f l.length = m := ⟨_, rfl⟩
          rw [hm] at HT HSET
          simp only [hm]
          clear hm
          go_wp2_with (first
            | (go_at_call 89; refine (HCR.out _).mono ?_; rintro e w2 ⟨rfl, hk2⟩; have HK2 := Lib.hid hk2; clear hk2)
            | (go_at_call 119; refine (HT.out _ HK2.out).mono ?_; rintro e w3 ⟨c, nb, fb, n', rfl, hn', hT', hk3⟩
               have HT3 := Lib.hid hT'; have HN3 := Lib.hid hn'; have HK3 := Lib.hid hk3; clear hT' hn' hk3))
          have hat : TreeAt (l.map (fun r => pxOf (pSrc r))) (j + 1) (T1.put nb (pxOf (pSrc r)) m fb) := by
            have := HI.out.at_.put (k := j) (by rw [List.length_map]; exact hlt) (by rw [HGJ.out]; exact HRP.out.1) nb fb
            rw [HGJ.out] at this
            rw [HSET.out]; exact this
          have HAT := Lib.hid hat
          have HKE : Hid (Kp none' w wr) := HI1.out.kp
          have HKF := Lib.hid ((HKE.out.trans HK2.out).then HK3.out (fun i hi e => by omega))
          clear hat
          go_roundw
          case rel => exact ⟨j + 1, n', _, by go_num, by omega, HT3.out, HAT.out, HKF.out, Nat.le_trans HN3.out (Nat.succ_le_succ HI.out.n_le)⟩
          case measure => simp [intOf]; omega
    · have hjn : j = l.length := by omega
      subst hjn
      go_wp2_with fail
      go_ret
      refine ⟨tb, T1, n, rfl, HI.out.tab, ?_, HI.out.kp⟩
      have := HI.out.at_
      have e : l.length = (l.map (fun r => pxOf (pSrc r))).length := (List.length_map ..).symm
      rw [e] at this
      exact this.full
end Go.Proofs.YtfckgddodjmbdaaGreatDoor
