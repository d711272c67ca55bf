/- The trie of layer 32: lay, for every tree; what a Put leaves in memory; with whole numbers. Printed by wip/ti.py. -/
import Derived.Test.YtfckgddodjmbdaaGreatDoorMDeviceNobodyF39
import Derived.Test.YtfckgddodjmbdaaGreatDoorMDeviceNobodyF20
import Derived.Test.YtfckgddodjmbdaaGreatDoorMDeviceNobodyF8
import Derived.Test.YtfckgddodjmbdaaGreatDoorMDeviceNobodyF37
import Derived.Test.YtfckgddodjmbdaaGreatDoorMDeviceNobodyF34
import Derived.Test.YtfckgddodjmbdaaGreatDoorMDeviceNobodyF35
namespace Go.Proofs.YtfckgddodjmbdaaGreatDoor.ti
set_option linter.unusedVariables false
set_option linter.unusedSimpArgs false
set_option linter.unusedVariables false
set_option linter.unusedSimpArgs false
open Go.RowKit
theorem layOk (T : Tr) : LayOk T := by
  induction T with
  | nil => intro w nb np nx hc; exact hc.elim
  | node kb kp ku kx kl kr hl hr =>
    intro w nb np nx hc hM hw hnd hN hnb hok hnp
    obtain ⟨hB, hml, hmr⟩ := hM
    obtain ⟨ok2, w1, w2, w3, w4⟩ := hw
    simp only [Tr.blks, List.nodup_cons, List.mem_append, not_or, List.nodup_append] at hnd
    obtain ⟨⟨hkl, hkr⟩, ndl, ndr, hdis⟩ := hnd
    simp only [Tr.blks, List.mem_cons, List.mem_append, not_or] at hnb
    simp only [Tr.prs, List.mem_cons, List.mem_append, not_or] at hnp
    have hc' : covP kp np = true := hc
    have hlt : kp.2 < np.2 := by
      rcases Nat.lt_or_ge kp.2 np.2 with h | h
      · exact h
      · exact absurd (cov_same hc' (by have := cov_le hc'; omega)).symm hnp.1
    have h32 := (right_iff.1 hok.1).1
    rcases side_two kp np.1 with hs | hs
    · refine (layAt w kb nb nx 0 kp np (enNd kp ku kx kl kr) kl hB rfl hs rfl (by omega) hml w3 ndl hkl hN hnb.2.1 hnb.1 hok hnp.2.1 hl).mono ?_
      rintro e w' ⟨he, fb, hfb, hm, hb, hk⟩
      refine ⟨he, fb, hfb, ?_, hk.mono (fun i _ hi => ?_)⟩
      · unfold Tr.lay
        rw [if_pos hc', if_pos hs]
        refine ⟨hb, hm, hmr.kp hk (fun b hb2 h => ?_)⟩
        rcases h with h | h | h
        · exact hdis b h b hb2 rfl
        · subst h; exact hnb.2.2 hb2
        · subst h; exact hkr hb2
      · rcases hi with h | h | h
        · left; simp [Tr.blks, h]
        · right; exact h
        · left; simp [Tr.blks, h]
    · refine (layAt w kb nb nx 1 kp np (enNd kp ku kx kl kr) kr hB rfl hs rfl (by omega) hmr w4 ndr hkr hN hnb.2.2 hnb.1 hok hnp.2.2 hr).mono ?_
      rintro e w' ⟨he, fb, hfb, hm, hb, hk⟩
      refine ⟨he, fb, hfb, ?_, hk.mono (fun i _ hi => ?_)⟩
      · unfold Tr.lay
        rw [if_pos hc', if_neg (by omega)]
        refine ⟨hb, hml.kp hk (fun b hb2 h => ?_), hm⟩
        rcases h with h | h | h
        · exact hdis b hb2 b h rfl
        · subst h; exact hnb.2.1 hb2
        · subst h; exact hkl hb2
      · rcases hi with h | h | h
        · left; simp [Tr.blks, h]
        · right; exact h
        · left; simp [Tr.blks, h]
theorem TrM.at_ {w : World} {T : Tr} {p : Px} {b : Nat} {u : Bool} {x : Nat} (hM : TrM w T) (h : T.at_ p = some (b, u, x)) : ∃ l r, Blk w b (enNd p u x l r) ndT := by
  induction T with
  | nil => cases h
  | node kb kp ku kx kl kr hl hr =>
    obtain ⟨h1, h2, h3⟩ := hM
    unfold Tr.at_ at h
    split at h
    · rename_i e; cases h; subst e; exact ⟨_, _, h1⟩
    · split at h
      · cases h
      · split at h
        · exact hl h2 h
        · exact hr h3 h
theorem put_mem {w w' : World} {T : Tr} {p : Px} {b : Nat} {u : Bool} {y x : Nat} (hM : TrM w T) (hnd : T.blks.Nodup) (h : T.at_ p = some (b, u, y)) (hk : Kp (fun i => i = b) w w')
    (hb : ∀ cs, Blk w b cs ndT → Blk w' b ((cs.set 2 (.bool true)).set 3 (.int .i64 x)) ndT) : TrM w' (T.put_ p x) := by
  induction T with
  | nil => cases h
  | node kb kp ku kx kl kr hl hr =>
    obtain ⟨h1, h2, h3⟩ := hM
    simp only [Tr.blks, List.nodup_cons, List.mem_append, not_or, List.nodup_append] at hnd
    obtain ⟨⟨hkl, hkr⟩, ndl, ndr, hdis⟩ := hnd
    unfold Tr.at_ at h
    unfold Tr.put_
    split at h
    · rename_i e
      cases h
      rw [if_pos e]
      exact ⟨hb _ h1, h2.kp hk (fun i hi e => hkl (e ▸ hi)), h3.kp hk (fun i hi e => hkr (e ▸ hi))⟩
    · rename_i e
      rw [if_neg e]
      split at h
      · cases h
      · split at h
        · rename_i hs
          rw [if_pos hs]
          have hin := Tr.at_mem h
          refine ⟨?_, hl h2 ndl h, h3.kp hk (fun i hi e => hdis b hin i hi e.symm)⟩
          unfold enNd; rw [Tr.put_ptr]
          exact h1.kp hk (fun e => hkl (e ▸ hin))
        · rename_i hs
          rw [if_neg hs]
          have hin := Tr.at_mem h
          refine ⟨?_, h2.kp hk (fun i hi e => hdis i hi b hin e), hr h3 ndr h⟩
          unfold enNd; rw [Tr.put_ptr]
          exact h1.kp hk (fun e => hkr (e ▸ hin))
abbrev tbT : TypeId := 164
structure TabM (w : World) (base tb : Nat) (T : Tr) (n : Nat) : Prop where
  blk : Blk w tb [T.ptr, .int .i64 n] tbT
  mem : TrM w T
  wf : T.WF
  nd : T.blks.Nodup
  out : tb ∉ T.blks
  low : ∀ b ∈ T.blks, base ≤ b
  tlow : base ≤ tb
  blow : base ≤ w.heap.size
  root : ∀ p, okP p → covTop T p
theorem TabM.old {w w' : World} {base tb n : Nat} {T : Tr} (h : TabM w base tb T n) (k : Kp none' w w') : TabM w' base tb T n :=
  ⟨h.blk.kp k (fun x => x), h.mem.old k, h.wf, h.nd, h.out, h.low, h.tlow, Nat.le_trans h.blow k.size, h.root⟩
theorem TabM.laid {w2 w' : World} {base tb n n' x fb : Nat} {T : Tr} {p : Px} (h : TabM w2 base tb T n) (hp : okP p) (ha : T.at_ p = none) (hfb : w2.heap.size + 1 ≤ fb) (hb : Blk w' tb [T.ptr, .int .i64 n'] tbT) (hm : TrM w' (T.lay w2.heap.size p x fb)) (hs : w2.heap.size ≤ w'.heap.size) : TabM w' base tb (T.put w2.heap.size p x fb) n' := by
  have e : T.put w2.heap.size p x fb = T.lay w2.heap.size p x fb := by unfold Tr.put; rw [ha]
  rw [e]
  have hnp : p ∉ T.prs := fun hm => by
    obtain ⟨b, u, y, h1, _⟩ := Tr.at_some h.wf hm
    rw [ha] at h1; cases h1
  have hlt := h.mem.lt
  have htb := h.blk.lt
  obtain ⟨F, hF, hperm⟩ := Tr.lay_blks T p w2.heap.size x fb
  have hin : ∀ b, b ∈ (T.lay w2.heap.size p x fb).blks → b = fb ∨ b = w2.heap.size ∨ b ∈ T.blks := fun b hb => by
    have := hperm.mem_iff.1 hb
    rw [List.mem_append, List.mem_cons] at this
    rcases this with h1 | h1 | h1
    · left; rcases hF with rfl | rfl
      · cases h1
      · simpa using h1
    · exact .inr (.inl h1)
    · exact .inr (.inr h1)
  refine ⟨by rw [lay_ptr' (h.root p hp)]; exact hb, hm, Tr.lay_wf h.wf hp hnp _ _ _, ?_, ?_, ?_, h.tlow, Nat.le_trans h.blow hs, fun q hq => by rw [covTop_lay (h.root p hp)]; exact h.root q hq⟩
  · rw [hperm.nodup_iff]
    have h1 : (w2.heap.size :: T.blks).Nodup := List.nodup_cons.2 ⟨fun hb => Nat.lt_irrefl _ (hlt _ hb), h.nd⟩
    rcases hF with rfl | rfl
    · exact h1
    · refine List.nodup_cons.2 ⟨fun hb => ?_, h1⟩
      rcases List.mem_cons.1 hb with h2 | h2
      · omega
      · have := hlt _ h2; omega
  · intro hb
    rcases hin _ hb with h1 | h1 | h1
    · omega
    · omega
    · exact h.out h1
  · intro b hb
    have := h.blow
    rcases hin _ hb with h1 | h1 | h1
    · omega
    · omega
    · exact h.low b h1
theorem TabM.put_ {w2 w' : World} {base tb n n' x nb fb b y : Nat} {T : Tr} {p : Px} (h : TabM w2 base tb T n) (ha : T.at_ p = some (b, false, y)) (hb : Blk w' tb [T.ptr, .int .i64 n'] tbT) (hm : TrM w' (T.put_ p x)) (hs : w2.heap.size ≤ w'.heap.size) : TabM w' base tb (T.put nb p x fb) n' := by
  have e : T.put nb p x fb = T.put_ p x := by unfold Tr.put; rw [ha]
  rw [e]
  exact ⟨by rw [Tr.put_ptr]; exact hb, hm, Tr.put_wf h.wf _ _, by rw [Tr.put_blks]; exact h.nd, by rw [Tr.put_blks]; exact h.out, by rw [Tr.put_blks]; exact h.low, h.tlow, Nat.le_trans h.blow hs, fun q hq => by rw [covTop_put]; exact h.root q hq⟩
theorem TabM.count {w : World} {base tb n : Nat} {T : Tr} (h : TabM w base tb T n) : TabM (w.setCell ⟨tb, 1, none⟩ (.int .i64 ((n : Int) + 1))) base tb T (n + 1) := by
  have hks : Kp (fun i => i = tb) w (w.setCell ⟨tb, 1, none⟩ (.int .i64 ((n : Int) + 1))) := (Kp.refl (fun i => i = tb) w).set (p := ⟨tb, 1, none⟩) (.inl rfl) _
  exact ⟨h.blk.set 1 _, h.mem.kp hks (fun b hb e => h.out (e ▸ hb)), h.wf, h.nd, h.out, h.low, h.tlow, Nat.le_trans h.blow hks.size, h.root⟩
set_option maxRecDepth 100000 in
set_option maxHeartbeats 8000000 in
def putC (T : Tr) (p : Px) : Int := match T.at_ p with | some (_, true, _) => 8 | _ => 0
set_option maxRecDepth 100000 in
set_option maxHeartbeats 8000000 in
theorem tPut (w : World) (base tb n x : Nat) (T : Tr) (h : TabM w base tb T n) (p : Px) (hp : okP p) (hn : n < 4096) :
    Calls Tryz.prog 96 #[.pointer (some ⟨tb, 0, none⟩), .agg #[.int .u32 p.1, .int .i64 p.2], .int .i64 x] w fun e w' => ∃ c nb fb n', e = .returned (.int .i64 c) ∧ c = putC T p ∧ n' ≤ n + 1 ∧ TabM w' base tb (T.put nb p x fb) n' ∧ Kp (fun b => base ≤ b) w w' := by
  have hk1 := (Kp.refl none' w).alloc (.cells #[.int .u32 p.1, .int .i64 p.2] 88)
  have hb1 : Blk (w.alloc (.cells #[.int .u32 p.1, .int .i64 p.2] 88)) w.heap.size [.int .u32 p.1, .int .i64 p.2] 88 := Blk.new w [.int .u32 p.1, .int .i64 p.2] _
  have h32 := (right_iff.1 hp.1).1
  have HR := Lib.hid (fun W => aRight p.1 p.2 W hp.2 (by omega))
  rw [show rightB p.1 p.2 = true from hp.1] at HR
  have H1 := Lib.hid (h.old hk1)
  have HF := Lib.hid (tFindP (w.alloc (.cells #[.int .u32 p.1, .int .i64 p.2] 88)) tb T n (h.old hk1).blk (h.old hk1).mem h.wf p hp)
  obtain ⟨q, hq⟩ : ∃ q, T.ptr = .pointer (some ⟨q, 0, none⟩) := by
    have := h.root p hp
    cases T with
    | nil => exact this.elim
    | node kb kp ku kx kl kr => exact ⟨kb, rfl⟩
  have c0 := (h.old hk1).blk.cell 0 rfl
  rw [hq] at c0
  have q0 := hb1.cell 0 rfl
  have q1 := hb1.cell 1 rfl
  have HT := Lib.hid h
  have HB := Lib.hid hb1
  have HQ := Lib.hid hq
  clear h hk1 hb1 hq
  rcases ha : T.at_ p with _ | ⟨b, u, y⟩
  · rw [atP_none ha] at HF
    have HA := Lib.hid ha
    clear ha
    go_enter Tryz.func96, Tryz.ntmps96
    go_wp2_with (first
      | (go_at_call 122; refine HF.out.mono ?_; rintro e w1 ⟨rfl, hk1⟩
         have HT1 := Lib.hid (H1.out.old hk1); have HB1 := Lib.hid (HB.out.kp hk1 (fun x => x))
         have c0 := hk1.cell c0 (fun x => x); have q0 := hk1.cell q0 (fun x => x); have q1 := hk1.cell q1 (fun x => x)
         have HK1 := Lib.hid hk1; clear hk1)
      | (go_at_call 92; refine (HR.out _).mono ?_; rintro e w2 ⟨rfl, hk2⟩
         have HT2 := Lib.hid (HT1.out.old hk2); have HB2 := Lib.hid (HB1.out.kp hk2 (fun x => x))
         have c0 := hk2.cell c0 (fun x => x); have q0 := hk2.cell q0 (fun x => x); have q1 := hk2.cell q1 (fun x => x)
         have c1 := HT2.out.blk.cell 1 rfl
         have HK2 := Lib.hid hk2; clear hk2))
    have hcov := HT2.out.root p hp
    have hnp : p ∉ T.prs := fun hm => by
      obtain ⟨b, u, y, h1, _⟩ := Tr.at_some HT2.out.wf hm
      rw [HA.out] at h1; cases h1
    have HL := Lib.hid (fun W (k : Kp none' w2 W) (hb : Blk W w2.heap.size (enNd p true x .nil .nil) ndT) => layOk T W w2.heap.size p x hcov (HT2.out.mem.old k) HT2.out.wf HT2.out.nd hb (fun hb => Nat.lt_irrefl _ (HT2.out.mem.lt _ hb)) hp hnp)
    rw [HQ.out] at HL
    have htb : tb ≠ w2.heap.size := Nat.ne_of_lt HT2.out.blk.lt
    clear hnp hcov
    go_region_held3 (fun w' => w'.cell? ⟨tb, 0, none⟩ = some (.pointer (some ⟨q, 0, none⟩)) ∧ w'.cell? ⟨w.heap.size, 0, none⟩ = some (.int .u32 p.1) ∧ w'.cell? ⟨w.heap.size, 1, none⟩ = some (.int .i64 p.2)) (go_keep)
      ((go_at_call 123
        refine (HL.out _ ((Kp.refl none' w2).alloc _).drew (Blk.new w2 (enNd p true x .nil .nil) ndT).drew).mono ?_
        rintro e w5 ⟨rfl, fb, hfb, hm5, hk5⟩
        have hk25 : Kp (fun b => b ∈ T.blks) w2 w5 := (((Kp.refl (fun b => b ∈ T.blks) w2).alloc _).drew).then hk5 (fun i hi e => e.elim (fun h => h) (fun e => absurd e (Nat.ne_of_lt hi)))
        have hb5 := HT2.out.blk.kp hk25 HT2.out.out
        have e0 := hb5.cell 0 (show some T.ptr = _ by rw [HQ.out])
        have e1 := hb5.cell 1 rfl
        have y1 := hb5.fz 1
        have hbx := HB2.out.kp hk25 (fun hb => Nat.lt_irrefl _ (HT.out.mem.lt _ hb))
        have e2 := hbx.cell 0 rfl
        have e3 := hbx.cell 1 rfl
        clear hbx
        have HM5 := Lib.hid hm5; have HK25 := Lib.hid hk25; have HFB := Lib.hid hfb; have HB5 := Lib.hid hb5; clear hm5 hk25 hfb hb5 hk5))
    have hw : IntKind.i64.wrap ((n : Int) + 1) = (n : Int) + 1 := by rw [IntKind.wrap_i64]; omega
    go_wp2_with fail
    go_ret
    have hf : w2.heap.size + 1 ≤ fb := by have := HFB.out; rwa [show (w2.alloc (.cells (enNd p true x .nil .nil).toArray ndT)).drew.heap.size = w2.heap.size + 1 from World.size_alloc _ _] at this
    have hM := HT2.out.laid (n' := n) hp HA.out hf HB5.out HM5.out HK25.out.size
    refine ⟨0, w2.heap.size, fb, n + 1, rfl, by unfold putC; rw [HA.out], Nat.le_refl _, hM.count, ?_⟩
    have k02 : Kp none' w w2 := (((Kp.refl none' w).alloc _).trans HK1.out).trans HK2.out
    exact ((k02.mono (T := fun b => base ≤ b) (fun _ _ x => x.elim)).trans (HK25.out.mono (fun i _ hi => HT2.out.low i hi))).set (p := ⟨tb, 1, none⟩) (.inl HT2.out.tlow) _
  · have hb2 := TrM.at_ HT.out.mem ha
    obtain ⟨l, r, hb2⟩ := hb2
    have HN := Lib.hid hb2
    rw [atP_some ha] at HF
    have HA := Lib.hid ha
    have hba := Tr.at_mem ha
    have hbl := HT.out.mem.lt b hba
    have hbt : b ≠ tb := fun e => HT.out.out (e ▸ hba)
    clear hb2 ha hba
    cases u with
    | true =>
      go_enter Tryz.func96, Tryz.ntmps96
      go_wp2_with (first
        | (go_at_call 122; refine HF.out.mono ?_; rintro e w1 ⟨rfl, hk1⟩
           have HT1 := Lib.hid (H1.out.old hk1); have HB1 := Lib.hid (HB.out.kp hk1 (fun x => x))
           have q0 := hk1.cell q0 (fun x => x); have q1 := hk1.cell q1 (fun x => x)
           have HN1 := Lib.hid ((HN.out.alloc (.cells #[.int .u32 p.1, .int .i64 p.2] 88)).kp hk1 (fun x => x))
           have HK1 := Lib.hid (((Kp.refl none' w).alloc _).trans hk1); clear hk1 c0)
        | (go_at_call 92; refine (HR.out _).mono ?_; rintro e w2 ⟨rfl, hk2⟩
           have HT2 := Lib.hid (HT1.out.old hk2); have HN2 := Lib.hid (HN1.out.kp hk2 (fun x => x))
           have n1 := HN2.out.cell 2 rfl
           have HK2 := Lib.hid (HK1.out.trans hk2); clear hk2 q0 q1))
      go_ret
      have e : T.put 0 p x 0 = T := by unfold Tr.put; rw [HA.out]
      exact ⟨8, 0, 0, n, rfl, by unfold putC; rw [HA.out], by omega, by rw [e]; exact HT2.out, HK2.out.mono (fun _ _ x => x.elim)⟩
    | false =>
      go_enter Tryz.func96, Tryz.ntmps96
      have hw : IntKind.i64.wrap ((n : Int) + 1) = (n : Int) + 1 := by rw [IntKind.wrap_i64]; omega
      go_wp2_with (first
        | (go_at_call 122; refine HF.out.mono ?_; rintro e w1 ⟨rfl, hk1⟩
           have HT1 := Lib.hid (H1.out.old hk1); have HB1 := Lib.hid (HB.out.kp hk1 (fun x => x))
           have q0 := hk1.cell q0 (fun x => x); have q1 := hk1.cell q1 (fun x => x)
           have HN1 := Lib.hid ((HN.out.alloc (.cells #[.int .u32 p.1, .int .i64 p.2] 88)).kp hk1 (fun x => x))
           have HK1 := Lib.hid (((Kp.refl none' w).alloc _).trans hk1); clear hk1 c0)
        | (go_at_call 92; refine (HR.out _).mono ?_; rintro e w2 ⟨rfl, hk2⟩
           have HT2 := Lib.hid (HT1.out.old hk2); have HN2 := Lib.hid (HN1.out.kp hk2 (fun x => x))
           have n1 := HN2.out.cell 2 rfl
           have n2 := HN2.out.cell 3 rfl
           have z1 := HN2.out.fz 2
           have z2 := HN2.out.fz 3
           have c1 := HT2.out.blk.cell 1 rfl
           have y1 := HT2.out.blk.fz 1
           have HK2 := Lib.hid (HK1.out.trans hk2); clear hk2 q0 q1))
      go_ret
      have hks : Kp (fun i => i = b) w2 ((w2.setCell ⟨b, 2, none⟩ (.bool true)).setCell ⟨b, 3, none⟩ (.int .i64 x)) := ((Kp.refl (fun i => i = b) w2).set (p := ⟨b, 2, none⟩) (.inl rfl) _).set (p := ⟨b, 3, none⟩) (.inl rfl) _
      have hM := HT2.out.put_ (nb := 0) (fb := 0) (x := x) HA.out (HT2.out.blk.kp hks (fun e => hbt e.symm)) (put_mem HT2.out.mem HT2.out.nd HA.out hks (fun cs hb => (hb.set 2 _).set 3 _)) hks.size
      refine ⟨0, 0, 0, n + 1, rfl, by unfold putC; rw [HA.out], Nat.le_refl _, hM.count, ?_⟩
      exact ((HK2.out.mono (T := fun b => base ≤ b) (fun _ _ x => x.elim)).trans (hks.mono (fun i _ hi => by subst hi; exact HT2.out.low _ (Tr.at_mem HA.out)))).set (p := ⟨tb, 1, none⟩) (.inl HT2.out.tlow) _
set_option maxRecDepth 100000 in
theorem tNew (w : World) : Calls Tryz.prog 95 #[] w fun e w' => ∃ tb T, e = .returned (.pointer (some ⟨tb, 0, none⟩)) ∧ TabM w' w.heap.size tb T 0 ∧ Kp none' w w' ∧ ∃ b, T = .node b (0, 0) false 0 .nil .nil := by
  go_enter Tryz.func95, Tryz.ntmps95
  go_wp2
  go_ret
  have hn : Blk (w.alloc (.cells (enNd (0, 0) false 0 .nil .nil).toArray ndT)) w.heap.size (enNd (0, 0) false 0 .nil .nil) ndT := Blk.new w (enNd (0, 0) false 0 .nil .nil) ndT
  have hb := Blk.new (w.alloc (.cells (enNd (0, 0) false 0 .nil .nil).toArray ndT)) [.pointer (some ⟨w.heap.size, 0, none⟩), .int .i64 ((0 : Nat) : Int)] tbT
  rw [World.size_alloc] at hb
  refine ⟨w.heap.size + 1, .node w.heap.size (0, 0) false 0 .nil .nil, rfl, ?_, ((Kp.refl none' w).alloc _).alloc _, w.heap.size, rfl⟩
  refine ⟨hb, ⟨hn.alloc _, trivial, trivial⟩, (TreeAt.start [] w.heap.size).wf, by simp [Tr.blks], by simp [Tr.blks], by simp [Tr.blks], by omega, ?_, fun p hp => cov_root hp⟩
  rw [World.size_alloc, World.size_alloc]; omega
end Go.Proofs.YtfckgddodjmbdaaGreatDoor.ti

namespace Go.Proofs.YtfckgddodjmbdaaGreatDoor
set_option linter.unusedVariables false
set_option linter.unusedSimpArgs false
open Go Go.RowKit Go.Shelf
abbrev Rt := Px × Nat
def enRt (r : Rt) : List Value := [.int .u32 r.1.1, .int .i64 r.1.2, .int .i64 r.2]
theorem enRt_len (r : Rt) : (enRt r).length = 3 := rfl
inductive PutsOf : List Rt → Tr → Prop
  | nil (b : Nat) : PutsOf [] (.node b (0, 0) false 0 .nil .nil)
  | snoc (l : List Rt) (T : Tr) (r : Rt) (nb fb : Nat) : PutsOf l T → PutsOf (l ++ [r]) (T.put nb r.1 r.2 fb)
structure RtsOk (l : List Rt) (n : Nat) : Prop where
  ok : ∀ r ∈ l, okP r.1 ∧ r.2 < n
  new : ∀ k T, (h : k < l.length) → PutsOf (l.take k) T → ti.putC T l[k].1 = 0
  len : l.length ≤ 4096
structure RoI (w wr : World) (l : List Rt) (tb n j : Nat) (T : Tr) : Prop where
  tab : ti.TabM wr (w.heap.size + 1) tb T n
  puts : PutsOf (l.take j) T
  kp : Kp none' w wr
  n_le : n ≤ j
set_option maxRecDepth 100000 in
set_option maxHeartbeats 4000000 in
theorem dRoutes (l : List Rt) (np room batch : Nat) (hl : RtsOk l np) (ap : Option Addr) (cp : Nat) (rv : Value) (w : World) (h : Sl w rv l.length 3 (l.flatMap enRt)) :
    Calls Tryz.prog 65 #[.agg #[.slice ap np cp, rv, .int .i64 room, .int .i64 batch]] w fun e w' => ∃ tb T n, e = .returned (.tuple #[.pointer (some ⟨tb, 0, none⟩), .int .i64 0]) ∧ ti.TabM w' w.heap.size tb T n ∧ PutsOf l T ∧ Kp none' w w' := by
  obtain ⟨ao, cap, rfl⟩ : ∃ ao cap, rv = .slice ao l.length cap := by obtain ⟨ao, cap, rfl, _⟩ := h.is; exact ⟨_, _, rfl⟩
  have HS := Lib.hid h
  have HL := Lib.hid hl
  have HNW := Lib.hid (fun W => ti.tNew W)
  have HD0 := Lib.hid (Blk.new w [.slice ap np cp, .slice ao l.length cap, .int .i64 room, .int .i64 batch] 113)
  have HK0 := Lib.hid ((Kp.refl none' w).alloc (.cells #[.slice ap np cp, .slice ao l.length cap, .int .i64 room, .int .i64 batch] 113))
  refine calls_post ?_
  intro PP HP
  have hlen := hl.len
  clear h hl
  go_enter Tryz.func65, Tryz.ntmps65
  go_wp2_with fail
  refine (HNW.out _).mono ?_
  rintro e w1 ⟨tb, T, rfl, hT, hk1, b1, hb1⟩
  have HD1 := Lib.hid (HD0.out.kp hk1 (fun x => x))
  have HI0 : Hid (RoI w w1 l tb 0 0 T) := Lib.hid ⟨by rw [World.size_alloc] at hT; exact hT, by rw [hb1, List.take_zero]; exact PutsOf.nil b1, HK0.out.trans hk1, Nat.le_refl _⟩
  have d1 := HD1.out.cell 1 rfl
  clear hT hk1 hb1 HD0 HK0 HNW
  go_wp2_with fail
  go_loopw [12] (fun i0 wr => ∃ (j n : Nat) (T : Tr), i0 = .int .i64 j ∧ j ≤ l.length ∧ Hid (RoI w wr l tb n j T) ∧ Hid (Blk wr w.heap.size [.slice ap np cp, .slice ao l.length cap, .int .i64 room, .int .i64 batch] 113)) (fun i0 _ => l.length - (intOf i0).toNat)
  case atStart => exact ⟨0, 0, T, rfl, Nat.zero_le _, HI0, HD1⟩
  case round =>
    clear HI0 HD1 d1
    obtain ⟨j, n, T1, rfl, hj, HI, HD⟩ := hrel
    obtain ⟨wo, hwo⟩ : ∃ wo : World, wo = wr := ⟨_, rfl⟩
    subst hwo
    by_cases hlt : j < l.length
    · obtain ⟨g, off, cap', e1, hc⟩ := (HS.out.old HI.out.kp).at enRt_len (by decide) j hlt
      injection e1 with e1 _ e3
      subst e1 e3
      have hji : (j : Int) < l.length := by omega
      obtain ⟨r, hrr⟩ : ∃ r, l[j] = r := ⟨_, rfl⟩
      have hok := HL.out.ok r (by rw [← hrr]; exact List.getElem_mem hlt)
      have hpc := HL.out.new j T1 hlt HI.out.puts
      rw [hrr] at hc hpc
      have HRR : Hid (l.take (j + 1) = l.take j ++ [r]) := Lib.hid (by rw [List.take_succ_eq_append_getElem hlt, hrr])
      obtain ⟨⟨a, b⟩, x⟩ := r
      obtain ⟨hokp, hx⟩ := hok
      simp only at hx
      have h32 := (right_iff.1 hokp.1).1
      have hb32 : b ≤ 32 := h32
      have ha32 : a < 4294967296 := hokp.2
      have c0 : wo.cell? ⟨g, off + j * 3, none⟩ = some (.int .u32 a) := hc 0 _ rfl
      have c1 : wo.cell? ⟨g, off + j * 3 + 1, none⟩ = some (.int .i64 b) := hc 1 _ rfl
      have c2 : wo.cell? ⟨g, off + j * 3 + 2, none⟩ = some (.int .i64 x) := hc 2 _ rfl
      have HR := Lib.hid (fun W => aRight a b W ha32 (by omega))
      rw [show rightB a b = true from hokp.1] at HR
      have hd := (HD.out.alloc (.cells #[.int .u32 a, .int .i64 b, .int .i64 x] 178))
      have HB := Lib.hid (Blk.new wo [.int .u32 a, .int .i64 b, .int .i64 x] 178)
      have HK := Lib.hid ((Kp.refl none' wo).alloc (.cells #[.int .u32 a, .int .i64 b, .int .i64 x] 178))
      have HD2 := Lib.hid hd
      have hxi : ¬ (x : Int) < 0 := by omega
      have hxn : ¬ (np : Int) ≤ x := by omega
      have HOKP := Lib.hid hokp
      have HPC := Lib.hid hpc
      clear hc hrr hpc hd hokp h32 HD
      go_wp2_with fail
      refine (HR.out _).mono ?_
      rintro e w2 ⟨rfl, hk2⟩
      have HB2 := Lib.hid (HB.out.kp hk2 (fun x => x))
      have HD3 := Lib.hid (HD2.out.kp hk2 (fun x => x))
      have HK2 := Lib.hid (HK.out.trans hk2)
      have b0 := HB2.out.cell 0 rfl
      have b1 := HB2.out.cell 1 rfl
      have b2 := HB2.out.cell 2 rfl
      have d0 := HD3.out.cell 0 rfl
      clear hk2 HB HK HD2 c0 c1 c2 HR
      go_wp2_with fail
      have ht2 : ti.TabM w2 (w.heap.size + 1) tb T1 n := HI.out.tab.old HK2.out
      refine (ti.tPut w2 (w.heap.size + 1) tb n x T1 ht2 (a, b) HOKP.out (by have := HI.out.n_le; omega)).mono ?_
      rintro e w3 ⟨c, nb, fb, n', rfl, hcc, hn', hT3, hk3⟩
      rw [HPC.out] at hcc
      subst hcc
      have HD4 := Lib.hid (HD3.out.kp hk3 (fun e => by omega))
      have hk03 : Kp none' w w3 := (HI.out.kp.trans HK2.out).then hk3 (fun i hi e => by omega)
      have HI3 : Hid (RoI w w3 l tb n' (j + 1) (T1.put nb (a, b) x fb)) := Lib.hid ⟨hT3, by rw [HRR.out]; exact PutsOf.snoc _ _ _ nb fb HI.out.puts, hk03, by have := HI.out.n_le; omega⟩
      clear hT3 hk3 hk03 ht2 HI HD3 HB2 HK2 b0 b1 b2 d0 HPC HOKP HRR hn'
      go_wp2_with fail
      go_roundw
      case rel => exact ⟨j + 1, n', _, by go_num, by omega, HI3, HD4⟩
      case measure => simp [intOf]; omega
    · have hjn : j = l.length := by omega
      subst hjn
      have HFIN := Lib.hid (HP.out _ _ ⟨tb, T1, n, rfl, { HI.out.tab with low := fun b hb => by have := HI.out.tab.low b hb; omega, tlow := by have := HI.out.tab.tlow; omega, blow := by have := HI.out.tab.blow; omega }, by have := HI.out.puts; rw [List.take_length] at this; exact this, HI.out.kp⟩)
      clear HI HD HP
      go_wp2_with fail
      exact HFIN.out

structure PtC where
  pc : PcR
  v : Value
  u : Value
def enPt (q : PtC) : List Value := enPc q.pc q.v q.u
theorem enPt_len (q : PtC) : (enPt q).length = 16 := rfl
structure PtsOk (w : World) (l : List PtC) : Prop where
  ok : ∀ q ∈ l, q.pc.Ok ∧ q.pc.Good
  mem : ∀ q ∈ l, Sl w q.v q.pc.c.flows.length 5 (q.pc.c.flows.flatMap enFl) ∧ Sl w q.u q.pc.rl.length 7 (q.pc.rl.flatMap enR7)
theorem PtsOk.old {w w' : World} {l : List PtC} (h : PtsOk w l) (k : Kp none' w w') : PtsOk w' l := ⟨h.ok, fun q hq => ⟨(h.mem q hq).1.old k, (h.mem q hq).2.old k⟩⟩
def ptZ : PtC := ⟨⟨⟨0, 0, 0, 0, 0, 0, 0, 0, 0, 0, []⟩, [], 0, 0, 0, 0⟩, .slice none 0 0, .slice none 0 0⟩
theorem infoPt : (Tryz.prog.info? 79).map (·.size) = some 16 := by kernel_rfl
theorem enPt_one (q : PtC) (h1 : q.v.oneCell' = true) (h2 : q.u.oneCell' = true) : (enPt q).all (·.oneCell') = true := by
  obtain ⟨⟨⟨rk, bk, lv, qu, pk, bt, sh, mt, rt, bu, fl⟩, rl, rate, near, far, y⟩, v, u⟩ := q
  simp only [enPt, enPc, enC, List.cons_append, List.nil_append, List.all_cons, List.all_nil, Bool.and_true, h1, h2]
  rfl
theorem Sl.one {w : World} {v : Value} {n k : Nat} {l : List Value} (h : Sl w v n k l) : v.oneCell' = true := by obtain ⟨ao, cap, rfl, _⟩ := h.is; rfl
theorem Blk.range {W : World} {b : Nat} {cs : List Value} {t : TypeId} (h : Blk W b cs t) : W.rangeAt b 0 cs := fun j v hv => by rw [Nat.zero_add]; exact h.cell j hv
set_option maxRecDepth 100000 in
set_option maxHeartbeats 4000000 in
theorem dCheck (ps : List PtC) (rts : List Rt) (room batch : Nat) (w : World) (hp : PtsOk w ps) (h1 : 1 ≤ ps.length) (h8 : ps.length ≤ 8) (hr : RtsOk rts ps.length) (hro : 1 ≤ room ∧ room ≤ 4096) (hba : 1 ≤ batch ∧ batch ≤ 64) (pv rv : Value) (hpv : Sl w pv ps.length 16 (ps.flatMap enPt)) (hrv : Sl w rv rts.length 3 (rts.flatMap enRt)) :
    Calls Tryz.prog 64 #[.agg #[pv, rv, .int .i64 room, .int .i64 batch]] w fun e w' => e = .returned (.int .i64 0) ∧ Kp none' w w' := by
  obtain ⟨ap, cp, rfl⟩ : ∃ ap cp, pv = .slice ap ps.length cp := by obtain ⟨ao, cap, rfl, _⟩ := hpv.is; exact ⟨_, _, rfl⟩
  have HPV := Lib.hid hpv
  have HPO := Lib.hid hp
  have HRO := Lib.hid (fun W (k : Kp none' w W) => dRoutes rts ps.length room batch hr ap cp rv W (hrv.old k))
  obtain ⟨ar, cr, rfl⟩ : ∃ ar cr, rv = .slice ar rts.length cr := by obtain ⟨ao, cap, rfl, _⟩ := hrv.is; exact ⟨_, _, rfl⟩
  have HD0 := Lib.hid (Blk.new w [.slice ap ps.length cp, .slice ar rts.length cr, .int .i64 room, .int .i64 batch] 113)
  have HK0 := Lib.hid ((Kp.refl none' w).alloc (.cells #[.slice ap ps.length cp, .slice ar rts.length cr, .int .i64 room, .int .i64 batch] 113))
  have i0 : ¬ ps = [] := by rintro rfl; simp at h1
  have i1 : ¬ (ps.length : Int) = 0 := by omega
  have i2 : ¬ (8 : Int) < ps.length := by omega
  have i3 : ¬ (room : Int) < 1 := by omega
  have i4 : ¬ (4096 : Int) < room := by omega
  have i5 : ¬ (batch : Int) < 1 := by omega
  have i6 : ¬ (64 : Int) < batch := by omega
  clear hpv hrv hp hr hro hba h1
  refine calls_post ?_
  intro PP HP
  go_enter Tryz.func64, Tryz.ntmps64
  go_wp2_with fail
  go_loopw [21] (fun i0 wr => ∃ j : Nat, i0 = .int .i64 j ∧ j ≤ ps.length ∧ Hid (Kp none' w wr) ∧ Hid (Blk wr w.heap.size [.slice ap ps.length cp, .slice ar rts.length cr, .int .i64 room, .int .i64 batch] 113)) (fun i0 _ => ps.length - (intOf i0).toNat)
  case atStart => exact ⟨0, rfl, Nat.zero_le _, HK0, HD0⟩
  case round =>
    clear HK0 HD0
    obtain ⟨j, rfl, hj, HK, HD⟩ := hrel
    obtain ⟨wo, hwo⟩ : ∃ wo : World, wo = wr := ⟨_, rfl⟩
    subst hwo
    by_cases hlt : j < ps.length
    · obtain ⟨g, off, cap', e1, hc⟩ := (HPV.out.old HK.out).at enPt_len (by decide) j hlt
      injection e1 with e1 _ e3
      subst e1 e3
      have hji : (j : Int) < ps.length := by omega
      have hmem := List.getElem_mem hlt
      obtain ⟨q, hqq⟩ : ∃ q, ps[j] = q := ⟨_, rfl⟩
      rw [hqq] at hc hmem
      have hq1 := HPO.out.ok q hmem
      have hq2 := (HPO.out.old HK.out).mem q hmem
      have HCH := Lib.hid (fun W (k : Kp none' wo W) => pCheckOk q.pc hq1.1 hq1.2 q.v q.u W (hq2.1.old k) (hq2.2.old k))
      have HQ1 := Lib.hid (enPt_one q hq2.1.one hq2.2.one)
      have HCQ : Hid (wo.rangeAt g (off + j * 16) (enPt q)) := Lib.hid hc
      clear hmem hqq hq1 hq2 hc
      have HZ := Lib.hid (Blk.new wo (enPt ptZ) 79)
      have HZK := Lib.hid ((Kp.refl none' wo).alloc (.cells (enPt ptZ).toArray 79))
      have HD2 := Lib.hid (HD.out.kp HZK.out (fun x => x))
      have hne : w.heap.size ≠ wo.heap.size := by have := HD.out.lt; omega
      have hle : w.heap.size ≤ wo.heap.size := by have := HD.out.lt; omega
      clear HD
      go_wp2_with (first
        | (refine wpList_load_mid rfl 79 (.tmp 23) rfl g (off + j * 16) rfl (enPt q) _ HCQ.out Tryz.underlying79 rfl infoPt ?_)
        | (refine wp_st_blk rfl 79 (.tmp 4) (.tmp 24) rfl HZ.out (enPt q) rfl rfl rfl infoPt HQ1.out ?_; intro W4 hb4 hk4; have HB4 := Lib.hid hb4; have HR4 := Lib.hid (HD2.out.kp hk4 hne); have HK4 : Hid (Kp none' wo W4) := Lib.hid (HZK.out.then hk4 (fun i h1 h2 => by omega)); clear hb4 hk4 HZ HZK HD2 HCQ)
        | (refine wpList_load_mid rfl 79 (.tmp 4) rfl wo.heap.size 0 rfl (enPt q) _ HB4.out.range Tryz.underlying79 rfl infoPt ?_))
      refine (HCH.out _ HK4.out).mono ?_
      rintro e w5 ⟨rfl, hk5⟩
      have HKn : Hid (Kp none' w w5) := Lib.hid ((HK.out.trans HK4.out).trans hk5)
      have HDn := Lib.hid (HR4.out.kp hk5 (fun x => x))
      clear hk5 HR4 HB4 HK4 HK HCH hne hle HQ1
      go_wp2_with fail
      go_roundw
      case rel => exact ⟨j + 1, by go_num, by omega, HKn, HDn⟩
      case measure => simp [intOf]; omega
    · have hjn : j = ps.length := by omega
      have hji : ¬ (j : Int) < ps.length := by omega
      have d2 := HD.out.cell 2 rfl
      have d3 := HD.out.cell 3 rfl
      have d0 := HD.out.cell 0 rfl
      have d1 := HD.out.cell 1 rfl
      clear HD
      go_wp2_with fail
      refine (HRO.out _ HK.out).mono ?_
      rintro e w5 ⟨tb, T, n, rfl, -, -, hk5⟩
      have HFIN := Lib.hid (HP.out _ _ ⟨rfl, HK.out.trans hk5⟩)
      clear hk5 HP
      go_wp2_with fail
      exact HFIN.out
end Go.Proofs.YtfckgddodjmbdaaGreatDoor
