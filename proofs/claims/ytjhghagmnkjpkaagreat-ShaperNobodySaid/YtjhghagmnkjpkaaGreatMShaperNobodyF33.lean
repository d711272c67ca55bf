/- A shaper's Run (layer 26). Printed by wip/shr.py. -/
import Derived.Test.YtjhghagmnkjpkaaGreatMShaperNobodyF32
import Derived.Great.BuildSlice
namespace Go.Proofs.YtjhghagmnkjpkaaGreat
set_option linter.unusedVariables false
set_option linter.unusedSimpArgs false
open Go Go.RowKit Go.Shelf

theorem tRp42 : SlT Tryz.prog 25 36 (.agg (rpC 0 0 0 0 0 0 zSt).toArray) 42 328 := ⟨Tryz.underlying25, by kernel_rfl, rfl, by decide⟩
theorem list42 (vs : List Value) (h : vs.length = 42) : ∃ a0 a1 a2 a3 a4 a5 a6 a7 a8 a9 a10 a11 a12 a13 a14 a15 a16 a17 a18 a19 a20 a21 a22 a23 a24 a25 a26 a27 a28 a29 a30 a31 a32 a33 a34 a35 a36 a37 a38 a39 a40 a41, vs = [a0, a1, a2, a3, a4, a5, a6, a7, a8, a9, a10, a11, a12, a13, a14, a15, a16, a17, a18, a19, a20, a21, a22, a23, a24, a25, a26, a27, a28, a29, a30, a31, a32, a33, a34, a35, a36, a37, a38, a39, a40, a41] := by
  match vs, h with
  | a0 :: a1 :: a2 :: a3 :: a4 :: a5 :: a6 :: a7 :: a8 :: a9 :: a10 :: a11 :: a12 :: a13 :: a14 :: a15 :: a16 :: a17 :: a18 :: a19 :: a20 :: a21 :: a22 :: a23 :: a24 :: a25 :: a26 :: a27 :: a28 :: a29 :: a30 :: a31 :: a32 :: a33 :: a34 :: a35 :: a36 :: a37 :: a38 :: a39 :: a40 :: a41 :: [], _ => exact ⟨a0, a1, a2, a3, a4, a5, a6, a7, a8, a9, a10, a11, a12, a13, a14, a15, a16, a17, a18, a19, a20, a21, a22, a23, a24, a25, a26, a27, a28, a29, a30, a31, a32, a33, a34, a35, a36, a37, a38, a39, a40, a41, rfl⟩
/-- What is known of each round: what a shaper is (or that there is none), and which blocks are its own. -/
structure RunJ (sv : Value) (l : List OpR) (rs : List (List Value)) (J : Nat → World → (Nat → Prop) → Prop) : Prop where
  lt : ∀ k W F z, J k W F → F z → z < W.heap.size
  kp : ∀ k T W W' F, J k W F → Kp T W W' → (∀ z, F z → ¬ T z) → J k W' F
  len : rs.length = l.length
  ok : ∀ r ∈ rs, Rp42 r
  step : ∀ (k : Nat) (o : OpR) (r : List Value) W F, l[k]? = some o → rs[k]? = some r → J k W F → Calls Tryz.prog 10 #[sv, .agg (enO o).toArray] W fun e w' => e = .returned (.agg r.toArray) ∧ ∃ F', J (k + 1) w' F' ∧ Kp F W w' ∧ Nw W F F'
structure RunI (rs : List (List Value)) (J : Nat → World → (Nat → Prop) → Prop) (F0 : Nat → Prop) (w wr : World) (v : Value) (k : Nat) (F : Nat → Prop) : Prop where
  row : wr.ownsRow w.heap.size 36 42 v k ((rs.take k).flatten)
  j : J k wr F
  dis : ∀ b, v.ownBlock = some b → ¬ F b
  kp : Kp F0 w wr
  nw : Nw w F0 F
set_option maxRecDepth 100000 in
set_option maxHeartbeats 4000000 in
theorem shRunG {w : World} {sv : Value} {l : List OpR} {rs : List (List Value)} {J : Nat → World → (Nat → Prop) → Prop} {F0 : Nat → Prop} (hsv : ∃ ad, sv = .pointer ad) (HJ : RunJ sv l rs J) (hj : J 0 w F0) (hn : l.length ≤ 1000000) (u : Value) (hs : Sl w u l.length 5 (l.flatMap enO)) (hu : ∀ b, u.ownBlock = some b → ¬ F0 b) :
    Calls Tryz.prog 5 #[sv, u] w fun e w' => ∃ v F, e = .returned v ∧ RunI rs J F0 w w' v l.length F := by
  obtain ⟨ao, acap, rfl⟩ : ∃ ao cap, u = .slice ao l.length cap := by obtain ⟨ao, cap, rfl, _⟩ := hs.is; exact ⟨_, _, rfl⟩
  obtain ⟨ad, rfl⟩ := hsv
  have HX := Lib.hid hs
  have HU := Lib.hid hu
  have HJJ := Lib.hid HJ
  have HJ0 := Lib.hid hj
  obtain ⟨N, hN⟩ : ∃ N, l.length = N := ⟨_, rfl⟩
  have HN := Lib.hid hN
  rw [hN] at hn ⊢
  clear hs hu hj HJ hN
  refine calls_post ?_
  intro PP HP
  go_enter Tryz.func5, Tryz.ntmps5
  go_wp2
  go_loopw [5, 10] (fun v i0 wr => ∃ (k : Nat) (F : Nat → Prop), i0 = .int .i64 k ∧ k ≤ N ∧ Hid (RunI rs J F0 w wr v k F)) (fun _ i0 _ => N - (intOf i0).toNat)
  case atStart => exact ⟨0, F0, rfl, Nat.zero_le _, ⟨World.ownsRow_nil _ _ _ _, HJ0.out, fun b h => (by cases h), Kp.refl _ _, Nw.refl _ _⟩⟩
  case round =>
    obtain ⟨k, F, rfl, hk, hr⟩ := hrel
    obtain ⟨ro, rcap, rfl⟩ := own_shape hr.out.row
    by_cases hlt : k < N
    · have hjx : k < l.length := by rw [HN.out]; exact hlt
      obtain ⟨gx, ox, cx, e1, hcx⟩ := (HX.out.kp hr.out.kp (fun b hb he => HU.out b he)).at enO_len (by decide) k hjx
      injection e1 with e1 _ e3
      subst e1 e3
      have hrl : k < rs.length := by rw [HJJ.out.len]; exact hjx
      obtain ⟨o, ho⟩ : ∃ o, l[k] = o := ⟨_, rfl⟩
      obtain ⟨r, hrr⟩ : ∃ r, rs[k] = r := ⟨_, rfl⟩
      have hr42 := HJJ.out.ok r (by rw [← hrr]; exact List.getElem_mem hrl)
      have HST := Lib.hid (fun W F => HJJ.out.step k o r W F (by rw [List.getElem?_eq_getElem hjx, ho]) (by rw [List.getElem?_eq_getElem hrl, hrr]))
      have HTK : Hid ((rs.take (k + 1)).flatten = (rs.take k).flatten ++ r) := Lib.hid (by rw [List.take_succ_eq_append_getElem hrl, hrr]; simp)
      rw [ho] at hcx
      obtain ⟨kd, fl, id, ln, tk⟩ := o
      have o0 : wr.cell? ⟨gx, ox + k * 5, none⟩ = some (.int .i64 kd) := hcx 0 _ rfl
      have o1 : wr.cell? ⟨gx, ox + k * 5 + 1, none⟩ = some (.int .u32 fl) := hcx 1 _ rfl
      have o2 : wr.cell? ⟨gx, ox + k * 5 + 2, none⟩ = some (.int .u32 id) := hcx 2 _ rfl
      have o3 : wr.cell? ⟨gx, ox + k * 5 + 3, none⟩ = some (.int .u64 ln) := hcx 3 _ rfl
      have o4 : wr.cell? ⟨gx, ox + k * 5 + 4, none⟩ = some (.int .u64 tk) := hcx 4 _ rfl
      have hki : (k : Int) < N := by omega
      have hgx : gx < wr.heap.size := World.block_lt_of_cell? _ _ o0
      have HR := Lib.hid hr.out
      have h42 := hr42.1
      have h42b := hr42.2
      obtain ⟨a0, a1, a2, a3, a4, a5, a6, a7, a8, a9, a10, a11, a12, a13, a14, a15, a16, a17, a18, a19, a20, a21, a22, a23, a24, a25, a26, a27, a28, a29, a30, a31, a32, a33, a34, a35, a36, a37, a38, a39, a40, a41, hrv⟩ := list42 r h42
      subst hrv
      have HK1 := Lib.hid ((Kp.refl none' wr).alloc (.cells #[.int .i64 kd, .int .u32 fl, .int .u32 id, .int .u64 ln, .int .u64 tk] 38))
      clear ho hrr hr hcx hr42 h42
      go_wp2_with fail
      have hJ1 := HJJ.out.kp k none' wr _ F HR.out.j HK1.out (fun _ _ x => x)
      refine (HST.out _ F hJ1).mono ?_
      rintro e w2 ⟨rfl, F2, hj2, hk2, hn2⟩
      have hz1 : wr.heap.size ≤ (wr.alloc (.cells #[.int .i64 kd, .int .u32 fl, .int .u32 id, .int .u64 ln, .int .u64 tk] 38)).heap.size := HK1.out.size
      have hdis : ∀ b, (Value.slice ro k rcap).ownBlock = some b → ¬ F2 b := fun b hb h => by
        have h1 := (own_block HR.out.row hb).2
        rcases hn2 b h with h2 | h2
        · exact HR.out.dis b hb h2
        · omega
      have HO2 := Lib.hid (own_kp (own_kp HR.out.row HK1.out (fun _ _ x => x)) hk2 HR.out.dis)
      have HJ2 := Lib.hid hj2
      have HD2 := Lib.hid hdis
      have HK2 : Hid (Kp F0 w w2) := Lib.hid ((HR.out.kp.trans (HK1.out.mono (fun _ _ x => x.elim))).then hk2 (fun i hi h => by
        rcases HR.out.nw i h with h1 | h1
        · exact h1
        · omega))
      have hz2 : wr.heap.size ≤ w2.heap.size := Nat.le_trans hz1 hk2.size
      have hw2 : w.heap.size ≤ wr.heap.size := HR.out.kp.size
      have HN2 : Hid (Nw w F0 F2) := Lib.hid (fun b hb => by
        rcases hn2 b hb with h1 | h1
        · exact HR.out.nw b h1
        · exact .inr (by omega))
      have HOA := Lib.hid (own_kp HO2.out ((Kp.refl none' w2).alloc (.cells #[a0, a1, a2, a3, a4, a5, a6, a7, a8, a9, a10, a11, a12, a13, a14, a15, a16, a17, a18, a19, a20, a21, a22, a23, a24, a25, a26, a27, a28, a29, a30, a31, a32, a33, a34, a35, a36, a37, a38, a39, a40, a41] 36)) (fun _ _ x => x))
      clear hj2 hk2 hn2 hJ1 hdis o0 o1 o2 o3 o4
      go_wp2_with (first
        | (refine wp_app1_at tRp42 (.tmp 14) (.tmp 18) rfl rfl w.heap.size HOA.out [a0, a1, a2, a3, a4, a5, a6, a7, a8, a9, a10, a11, a12, a13, a14, a15, a16, a17, a18, a19, a20, a21, a22, a23, a24, a25, a26, a27, a28, a29, a30, a31, a32, a33, a34, a35, a36, a37, a38, a39, a40, a41] rfl rfl rfl (fr := (0, 0)) (heap_newC _ _ (by simp)) h42b (by omega) (by omega) (by simp; omega) ?_
           intro g8 cap8 w8 hown8 hgrow8 hat8
           have HAT8 := Lib.hid hat8
           have HE8 := Lib.hid hown8
           have HG8 := Lib.hid hgrow8
           clear hown8 hgrow8 hat8))
      go_roundw
      case rel =>
        have ka : Kp none' w2 (w2.alloc (.cells #[a0, a1, a2, a3, a4, a5, a6, a7, a8, a9, a10, a11, a12, a13, a14, a15, a16, a17, a18, a19, a20, a21, a22, a23, a24, a25, a26, a27, a28, a29, a30, a31, a32, a33, a34, a35, a36, a37, a38, a39, a40, a41] 36)) := (Kp.refl none' w2).alloc _
        have hJa := HJJ.out.kp (k + 1) none' w2 _ F2 HJ2.out ka (fun _ _ x => x)
        have hkg : Kp (fun z => (Value.slice ro k rcap).ownBlock = some z) (w2.alloc (.cells #[a0, a1, a2, a3, a4, a5, a6, a7, a8, a9, a10, a11, a12, a13, a14, a15, a16, a17, a18, a19, a20, a21, a22, a23, a24, a25, a26, a27, a28, a29, a30, a31, a32, a33, a34, a35, a36, a37, a38, a39, a40, a41] 36)) w8 := (Kp.refl _ _).grown HG8.out (fun b h => .inl h)
        have hJ8 := HJJ.out.kp (k + 1) _ _ w8 F2 hJa hkg (fun z h1 h2 => HD2.out z h2 h1)
        refine ⟨k + 1, F2, by go_num, by omega, Lib.hid ⟨by rw [HTK.out]; exact HE8.out, hJ8, fun b h1 h => ?_, (HK2.out.trans (ka.mono (fun _ _ x => x.elim))).then hkg (fun i hi h => by have := (own_block HOA.out h).1; omega), HN2.out⟩⟩
        have hb8 : b = g8 := by
          have : some g8 = some b := h1
          injection this with this
          exact this.symm
        subst hb8
        have hlt2 := HJJ.out.lt _ _ _ _ HJ2.out h
        rcases HAT8.out with e | e
        · exact HD2.out _ e h
        · simp at e; omega
      case measure => simp [intOf]; omega
    · obtain rfl : k = N := by omega
      go_wp2_with fail
      exact HP.out _ _ ⟨_, _, rfl, hr.out⟩
end Go.Proofs.YtjhghagmnkjpkaaGreat

namespace Go.Proofs.YtjhghagmnkjpkaaGreat
set_option linter.unusedVariables false
set_option linter.unusedSimpArgs false
open Go Go.RowKit Go.Shelf

theorem runS_get : ∀ (l : List OpR) (s : Sh) (k : Nat) (o : OpR), l[k]? = some o → (runS s l).1[k]? = some (doS (runS s (l.take k)).2 o).1
  | [], _, _, _, h => by simp at h
  | a :: l, s, 0, o, h => by
    simp only [List.getElem?_cons_zero, Option.some.injEq] at h
    subst h; rfl
  | a :: l, s, k + 1, o, h => by
    have := runS_get l (doS s a).2 k o (by simpa using h)
    simpa [runS] using this
theorem runS_next (l : List OpR) (s : Sh) (k : Nat) (o : OpR) (h : l[k]? = some o) : (runS s (l.take (k + 1))).2 = (doS (runS s (l.take k)).2 o).2 := by
  obtain ⟨hk, rfl⟩ := List.getElem?_eq_some_iff.1 h
  rw [List.take_succ_eq_append_getElem hk, runS_snoc]
theorem runS_n : ∀ (l : List OpR) (s : Sh), bkN (runS s l).2.bk ≤ bkN s.bk + l.length
  | [], s => Nat.le_refl _
  | a :: l, s => by
    have h1 := runS_n l (doS s a).2
    have h2 := do_n s a
    show bkN (runS (doS s a).2 l).2.bk ≤ _
    rw [List.length_cons]; omega
theorem do_len (s : Sh) (o : OpR) : (doS s o).2.ref.length = s.ref.length := by
  unfold doS enqS deqS refS
  split
  · split
    · rfl
    · simp
  · split
    · split
      · rfl
      · split <;> rfl
    · split
      · rfl
      · split
        · rfl
        · split <;> simp
theorem runS_42 : ∀ (l : List OpR) (s : Sh), s.ref.length = 32 → ∀ r ∈ (runS s l).1, Rp42 r
  | [], _, _, r, hr => by cases hr
  | a :: l, s, h, r, hr => by
    rcases List.mem_cons.1 hr with e | e
    · rw [e]; exact do42 h a
    · exact runS_42 l (doS s a).2 (by rw [do_len]; exact h) r e
def ShJ (sb : Nat) (s : Sh) (l : List OpR) : Nat → World → (Nat → Prop) → Prop := fun k W F => ∃ f, F = f.all ∧ f.sb = sb ∧ ShM W f (runS s (l.take k)).2
theorem shJ (sb : Nat) (s : Sh) (l : List OpR) (hok : ∀ o ∈ l, o.ok) (h32 : s.ref.length = 32) (hn : bkN s.bk + l.length < 9223372036854775807) : RunJ (.pointer (some ⟨sb, 0, none⟩)) l (runS s l).1 (ShJ sb s l) where
  lt := fun k W F z ⟨f, e1, _, h⟩ hz => by subst e1; exact h.lt hz
  kp := fun k T W W' F ⟨f, e1, e2, h⟩ hk hT => ⟨f, e1, e2, h.kp hk (by rw [← e1]; exact hT)⟩
  len := runS_len s l
  ok := runS_42 l s h32
  step := fun k o r W F ho hr ⟨f, e1, e2, h⟩ => by
    subst e1 e2
    have h1 := runS_get l s k o ho
    rw [hr] at h1
    injection h1 with h1
    subst h1
    have hk := (List.getElem?_eq_some_iff.1 ho).1
    have h2 := runS_n (l.take k) s
    have h3 : (l.take k).length ≤ l.length := by rw [List.length_take]; omega
    refine (shDo o h (hok o (List.mem_of_getElem? ho)) (by omega)).mono ?_
    rintro e w' ⟨h4, f', h5, h6, h7, h8⟩
    exact ⟨h4, f'.all, ⟨f', rfl, h8, by rw [runS_next l s k o ho]; exact h5⟩, h6, h7⟩
/-- A shaper's run. -/
theorem shRun {w : World} {f : ShF} {s : Sh} (h : ShM w f s) (l : List OpR) (hok : ∀ o ∈ l, o.ok) (hl : l.length ≤ 1000000) (hn : bkN s.bk < 1000000000) (u : Value) (hs : Sl w u l.length 5 (l.flatMap enO)) (hu : ∀ b, u.ownBlock = some b → ¬ f.all b) :
    Calls Tryz.prog 5 #[.pointer (some ⟨f.sb, 0, none⟩), u] w fun e w' => ∃ v, e = .returned v ∧ w'.ownsRow w.heap.size 36 42 v l.length ((runS s l).1.flatten) ∧ ShTo w f (runS s l).2 w' := by
  refine (shRunG ⟨_, rfl⟩ (shJ f.sb s l hok h.ok.len (by omega)) ⟨f, rfl, rfl, h⟩ hl u hs hu).mono ?_
  rintro e w' ⟨v, F, rfl, hr⟩
  obtain ⟨f', e1, e2, hm⟩ := hr.j
  subst e1
  rw [List.take_length] at hm
  refine ⟨v, rfl, ?_, f', hm, hr.kp, hr.nw, e2⟩
  have := hr.row
  rwa [List.take_of_length_le (by rw [runS_len]; exact Nat.le_refl _)] at this
end Go.Proofs.YtjhghagmnkjpkaaGreat

namespace Go.Proofs.YtjhghagmnkjpkaaGreat
set_option linter.unusedVariables false
set_option linter.unusedSimpArgs false
open Go Go.RowKit Go.Shelf

set_option maxRecDepth 100000 in
set_option maxHeartbeats 4000000 in
theorem doNil (kind : Int) (fl id ln tk : Nat) (w : World) :
    Calls Tryz.prog 10 #[.pointer none, .agg #[.int .i64 kind, .int .u32 fl, .int .u32 id, .int .u64 ln, .int .u64 tk]] w fun e w' => e = .returned (.agg (rpC (knownK kind) 10 0 0 0 0 zSt).toArray) ∧ Kp none' w w' := by
  have HKN := Lib.hid (fun W => sKnown kind W)
  obtain ⟨K, hK⟩ : ∃ K, knownK kind = K := ⟨_, rfl⟩
  rw [hK] at HKN ⊢
  clear hK
  refine calls_post ?_
  intro PP HP
  have hz0 := Blk.new (w.alloc (.cells #[.int .i64 kind, .int .u32 fl, .int .u32 id, .int .u64 ln, .int .u64 tk] 38)) [.int .i64 0, .int .i64 0, .int .u32 0, .int .u32 0, .int .u64 0, .int .u64 0, .int .u64 0, .int .u64 0, .int .i64 0, .int .u64 0, .int .u64 0, .int .u64 0, .int .u64 0, .int .u64 0, .int .u64 0, .int .u64 0, .int .u64 0, .int .u64 0, .int .u64 0, .int .u64 0, .int .u64 0, .int .u64 0, .int .u64 0, .int .u64 0, .int .u64 0, .int .u64 0, .int .u64 0, .int .u64 0, .int .u64 0, .int .u64 0, .int .u64 0, .int .u64 0, .int .u64 0, .int .u64 0, .int .u64 0, .int .u64 0, .int .u64 0, .int .u64 0, .int .u64 0, .int .u64 0, .int .u64 0, .int .u64 0] 36
  have e1 : (w.alloc (.cells #[.int .i64 kind, .int .u32 fl, .int .u32 id, .int .u64 ln, .int .u64 tk] 38)).heap.size = w.heap.size + 1 := by simp
  rw [e1] at hz0
  have HZ0 := Lib.hid hz0
  have hz1 := Blk.new ((w.alloc (.cells #[.int .i64 kind, .int .u32 fl, .int .u32 id, .int .u64 ln, .int .u64 tk] 38)).alloc (.cells #[.int .i64 0, .int .i64 0, .int .u32 0, .int .u32 0, .int .u64 0, .int .u64 0, .int .u64 0, .int .u64 0, .int .i64 0, .int .u64 0, .int .u64 0, .int .u64 0, .int .u64 0, .int .u64 0, .int .u64 0, .int .u64 0, .int .u64 0, .int .u64 0, .int .u64 0, .int .u64 0, .int .u64 0, .int .u64 0, .int .u64 0, .int .u64 0, .int .u64 0, .int .u64 0, .int .u64 0, .int .u64 0, .int .u64 0, .int .u64 0, .int .u64 0, .int .u64 0, .int .u64 0, .int .u64 0, .int .u64 0, .int .u64 0, .int .u64 0, .int .u64 0, .int .u64 0, .int .u64 0, .int .u64 0, .int .u64 0] 36)) [.int .i64 0, .int .i64 0, .int .u32 0, .int .u32 0, .int .u64 0, .int .u64 0, .int .u64 0, .int .u64 0, .int .i64 0, .int .u64 0, .int .u64 0, .int .u64 0, .int .u64 0, .int .u64 0, .int .u64 0, .int .u64 0, .int .u64 0, .int .u64 0, .int .u64 0, .int .u64 0, .int .u64 0, .int .u64 0, .int .u64 0, .int .u64 0, .int .u64 0, .int .u64 0, .int .u64 0, .int .u64 0, .int .u64 0, .int .u64 0, .int .u64 0, .int .u64 0, .int .u64 0, .int .u64 0, .int .u64 0, .int .u64 0, .int .u64 0, .int .u64 0, .int .u64 0, .int .u64 0, .int .u64 0, .int .u64 0] 36
  have e2 : ((w.alloc (.cells #[.int .i64 kind, .int .u32 fl, .int .u32 id, .int .u64 ln, .int .u64 tk] 38)).alloc (.cells #[.int .i64 0, .int .i64 0, .int .u32 0, .int .u32 0, .int .u64 0, .int .u64 0, .int .u64 0, .int .u64 0, .int .i64 0, .int .u64 0, .int .u64 0, .int .u64 0, .int .u64 0, .int .u64 0, .int .u64 0, .int .u64 0, .int .u64 0, .int .u64 0, .int .u64 0, .int .u64 0, .int .u64 0, .int .u64 0, .int .u64 0, .int .u64 0, .int .u64 0, .int .u64 0, .int .u64 0, .int .u64 0, .int .u64 0, .int .u64 0, .int .u64 0, .int .u64 0, .int .u64 0, .int .u64 0, .int .u64 0, .int .u64 0, .int .u64 0, .int .u64 0, .int .u64 0, .int .u64 0, .int .u64 0, .int .u64 0] 36)).heap.size = w.heap.size + 2 := by simp
  rw [e2] at hz1
  have HZ1 := Lib.hid hz1
  have HK0 := Lib.hid ((((Kp.refl none' w).alloc (.cells #[.int .i64 kind, .int .u32 fl, .int .u32 id, .int .u64 ln, .int .u64 tk] 38)).alloc (.cells #[.int .i64 0, .int .i64 0, .int .u32 0, .int .u32 0, .int .u64 0, .int .u64 0, .int .u64 0, .int .u64 0, .int .i64 0, .int .u64 0, .int .u64 0, .int .u64 0, .int .u64 0, .int .u64 0, .int .u64 0, .int .u64 0, .int .u64 0, .int .u64 0, .int .u64 0, .int .u64 0, .int .u64 0, .int .u64 0, .int .u64 0, .int .u64 0, .int .u64 0, .int .u64 0, .int .u64 0, .int .u64 0, .int .u64 0, .int .u64 0, .int .u64 0, .int .u64 0, .int .u64 0, .int .u64 0, .int .u64 0, .int .u64 0, .int .u64 0, .int .u64 0, .int .u64 0, .int .u64 0, .int .u64 0, .int .u64 0] 36)).alloc (.cells #[.int .i64 0, .int .i64 0, .int .u32 0, .int .u32 0, .int .u64 0, .int .u64 0, .int .u64 0, .int .u64 0, .int .i64 0, .int .u64 0, .int .u64 0, .int .u64 0, .int .u64 0, .int .u64 0, .int .u64 0, .int .u64 0, .int .u64 0, .int .u64 0, .int .u64 0, .int .u64 0, .int .u64 0, .int .u64 0, .int .u64 0, .int .u64 0, .int .u64 0, .int .u64 0, .int .u64 0, .int .u64 0, .int .u64 0, .int .u64 0, .int .u64 0, .int .u64 0, .int .u64 0, .int .u64 0, .int .u64 0, .int .u64 0, .int .u64 0, .int .u64 0, .int .u64 0, .int .u64 0, .int .u64 0, .int .u64 0] 36))
  clear hz0 hz1 e1 e2
  go_enter Tryz.func10, Tryz.ntmps10
  go_wp2_with fail
  refine (HKN.out _).mono ?_
  rintro e w' ⟨rfl, rfl⟩
  go_wp2_with (first
    | (refine wp_store_blk rfl 36 (.tmp 5) (.tmp 9) rfl HZ1.out [.int .i64 K, .int .i64 0, .int .u32 0, .int .u32 0, .int .u64 0, .int .u64 0, .int .u64 0, .int .u64 0, .int .i64 0, .int .u64 0, .int .u64 0, .int .u64 0, .int .u64 0, .int .u64 0, .int .u64 0, .int .u64 0, .int .u64 0, .int .u64 0, .int .u64 0, .int .u64 0, .int .u64 0, .int .u64 0, .int .u64 0, .int .u64 0, .int .u64 0, .int .u64 0, .int .u64 0, .int .u64 0, .int .u64 0, .int .u64 0, .int .u64 0, .int .u64 0, .int .u64 0, .int .u64 0, .int .u64 0, .int .u64 0, .int .u64 0, .int .u64 0, .int .u64 0, .int .u64 0, .int .u64 0, .int .u64 0] rfl rfl rfl infoRp rfl ?_
       intro W2 hb2 hk2
       have k02 : Kp none' w W2 := HK0.out.then hk2 (fun b hb e => by omega)
       have hz2 := (HZ0.out.alloc (.cells #[.int .i64 0, .int .i64 0, .int .u32 0, .int .u32 0, .int .u64 0, .int .u64 0, .int .u64 0, .int .u64 0, .int .i64 0, .int .u64 0, .int .u64 0, .int .u64 0, .int .u64 0, .int .u64 0, .int .u64 0, .int .u64 0, .int .u64 0, .int .u64 0, .int .u64 0, .int .u64 0, .int .u64 0, .int .u64 0, .int .u64 0, .int .u64 0, .int .u64 0, .int .u64 0, .int .u64 0, .int .u64 0, .int .u64 0, .int .u64 0, .int .u64 0, .int .u64 0, .int .u64 0, .int .u64 0, .int .u64 0, .int .u64 0, .int .u64 0, .int .u64 0, .int .u64 0, .int .u64 0, .int .u64 0, .int .u64 0] 36)).kp hk2 (fun e => by omega)
       have b1 := hb2.cell 1 rfl
       have bz := hb2.fz 1
       have HB4 := Lib.hid (hb2.set 1 (.int .i64 10))
       have ks : Kp (fun z => z = w.heap.size + 2) W2 (W2.setCell ⟨w.heap.size + 2, 1, none⟩ (.int .i64 10)) := (Kp.refl (fun z => z = w.heap.size + 2) W2).set (p := ⟨w.heap.size + 2, 1, none⟩) (.inl rfl) _
       have HZ4 := Lib.hid (hz2.kp ks (fun e => by omega))
       have K04 := Lib.hid (k02.then ks (fun i hi e => by omega))
       clear hb2 hk2 k02 hz2 ks HZ0 HZ1 HK0 HKN)
    | (refine wpList_load_mid rfl 36 (.tmp 5) rfl (w.heap.size + 2) 0 rfl ([.int .i64 K, .int .i64 0, .int .u32 0, .int .u32 0, .int .u64 0, .int .u64 0, .int .u64 0, .int .u64 0, .int .i64 0, .int .u64 0, .int .u64 0, .int .u64 0, .int .u64 0, .int .u64 0, .int .u64 0, .int .u64 0, .int .u64 0, .int .u64 0, .int .u64 0, .int .u64 0, .int .u64 0, .int .u64 0, .int .u64 0, .int .u64 0, .int .u64 0, .int .u64 0, .int .u64 0, .int .u64 0, .int .u64 0, .int .u64 0, .int .u64 0, .int .u64 0, .int .u64 0, .int .u64 0, .int .u64 0, .int .u64 0, .int .u64 0, .int .u64 0, .int .u64 0, .int .u64 0, .int .u64 0, .int .u64 0].set 1 (.int .i64 10)) _ (fun j v hv => by rw [Nat.zero_add]; exact HB4.out.cell j hv) Tryz.underlying36 rfl infoRp ?_)
    | (refine wp_store_blk rfl 36 (.tmp 4) (.tmp 20) rfl HZ4.out ([.int .i64 K, .int .i64 0, .int .u32 0, .int .u32 0, .int .u64 0, .int .u64 0, .int .u64 0, .int .u64 0, .int .i64 0, .int .u64 0, .int .u64 0, .int .u64 0, .int .u64 0, .int .u64 0, .int .u64 0, .int .u64 0, .int .u64 0, .int .u64 0, .int .u64 0, .int .u64 0, .int .u64 0, .int .u64 0, .int .u64 0, .int .u64 0, .int .u64 0, .int .u64 0, .int .u64 0, .int .u64 0, .int .u64 0, .int .u64 0, .int .u64 0, .int .u64 0, .int .u64 0, .int .u64 0, .int .u64 0, .int .u64 0, .int .u64 0, .int .u64 0, .int .u64 0, .int .u64 0, .int .u64 0, .int .u64 0].set 1 (.int .i64 10)) rfl rfl rfl infoRp rfl ?_
       intro W12 hb12 hk12
       have HB12 := Lib.hid hb12
       have HK12 := Lib.hid hk12
       clear hb12 hk12))
  refine ret_blk (by exact rfl) HB12.out _ Tryz.underlying36 rfl infoRp (by exact rfl) (HP.out _ _ ⟨rfl, K04.out.then HK12.out (fun z _ e => by omega)⟩)
/-- Runs of none. -/
theorem runNil (l : List OpR) (hl : l.length ≤ 1000000) (u : Value) (w : World) (hs : Sl w u l.length 5 (l.flatMap enO)) :
    Calls Tryz.prog 5 #[.pointer none, u] w fun e w' => ∃ v, e = .returned v ∧ w'.ownsRow w.heap.size 36 42 v l.length ((l.map fun o => rpC (knownK o.kind) 10 0 0 0 0 zSt).flatten) ∧ Kp none' w w' := by
  have HJ : RunJ (.pointer none) l (l.map fun o => rpC (knownK o.kind) 10 0 0 0 0 zSt) (fun _ _ F => F = none') :=
    { lt := fun k W F z h hz => by subst h; exact hz.elim
      kp := fun k T W W' F h _ _ => h
      len := by simp
      ok := fun r hr => by obtain ⟨o, _, rfl⟩ := List.mem_map.1 hr; exact rp_z _ _ _ _ _ _
      step := fun k o r W F ho hr h => by
        subst h
        rw [List.getElem?_map, ho] at hr
        injection hr with hr
        subst hr
        obtain ⟨kd, fl, id, ln, tk⟩ := o
        refine (doNil kd fl id ln tk W).mono ?_
        rintro e w' ⟨rfl, hk⟩
        exact ⟨rfl, none', rfl, hk, Nw.refl _ _⟩ }
  refine (shRunG ⟨_, rfl⟩ HJ rfl hl u hs (fun _ _ x => x)).mono ?_
  rintro e w' ⟨v, F, rfl, hr⟩
  refine ⟨v, rfl, ?_, hr.kp⟩
  have := hr.row
  rwa [List.take_of_length_le (by simp)] at this
def zState : List Value := [.int .u64 0, .int .u64 0, .int .u64 0] ++ List.replicate 32 (.int .u64 0) ++ [.slice none 0 0, .slice none 0 0, .slice none 0 0]
theorem infoSt8 : (Tryz.prog.info? 43).map (·.size) = some 38 := by kernel_rfl
set_option maxRecDepth 100000 in
set_option maxHeartbeats 2000000 in
theorem stateNil (w : World) : Calls Tryz.prog 7 #[.pointer none] w fun e w' => e = .returned (.agg zState.toArray) ∧ Kp none' w w' := by
  have HZ0 := Lib.hid (Blk.new w [.int .u64 0, .int .u64 0, .int .u64 0, .int .u64 0, .int .u64 0, .int .u64 0, .int .u64 0, .int .u64 0, .int .u64 0, .int .u64 0, .int .u64 0, .int .u64 0, .int .u64 0, .int .u64 0, .int .u64 0, .int .u64 0, .int .u64 0, .int .u64 0, .int .u64 0, .int .u64 0, .int .u64 0, .int .u64 0, .int .u64 0, .int .u64 0, .int .u64 0, .int .u64 0, .int .u64 0, .int .u64 0, .int .u64 0, .int .u64 0, .int .u64 0, .int .u64 0, .int .u64 0, .int .u64 0, .int .u64 0, .slice none 0 0, .slice none 0 0, .slice none 0 0] 43)
  have HK0 := Lib.hid ((Kp.refl none' w).alloc (.cells #[.int .u64 0, .int .u64 0, .int .u64 0, .int .u64 0, .int .u64 0, .int .u64 0, .int .u64 0, .int .u64 0, .int .u64 0, .int .u64 0, .int .u64 0, .int .u64 0, .int .u64 0, .int .u64 0, .int .u64 0, .int .u64 0, .int .u64 0, .int .u64 0, .int .u64 0, .int .u64 0, .int .u64 0, .int .u64 0, .int .u64 0, .int .u64 0, .int .u64 0, .int .u64 0, .int .u64 0, .int .u64 0, .int .u64 0, .int .u64 0, .int .u64 0, .int .u64 0, .int .u64 0, .int .u64 0, .int .u64 0, .slice none 0 0, .slice none 0 0, .slice none 0 0] 43))
  refine calls_post ?_
  intro PP HP
  go_enter Tryz.func7, Tryz.ntmps7
  go_wp2_with (refine wp_store_blk rfl 43 (.tmp 2) (.tmp 20) rfl HZ0.out [.int .u64 0, .int .u64 0, .int .u64 0, .int .u64 0, .int .u64 0, .int .u64 0, .int .u64 0, .int .u64 0, .int .u64 0, .int .u64 0, .int .u64 0, .int .u64 0, .int .u64 0, .int .u64 0, .int .u64 0, .int .u64 0, .int .u64 0, .int .u64 0, .int .u64 0, .int .u64 0, .int .u64 0, .int .u64 0, .int .u64 0, .int .u64 0, .int .u64 0, .int .u64 0, .int .u64 0, .int .u64 0, .int .u64 0, .int .u64 0, .int .u64 0, .int .u64 0, .int .u64 0, .int .u64 0, .int .u64 0, .slice none 0 0, .slice none 0 0, .slice none 0 0] rfl rfl rfl infoSt8 rfl ?_
               intro W12 hb12 hk12
               have HB12 := Lib.hid hb12
               have HK12 := Lib.hid hk12
               clear hb12 hk12)
  refine ret_blk (by exact rfl) HB12.out _ Tryz.underlying43 rfl infoSt8 (by exact rfl) (HP.out _ _ ⟨rfl, HK0.out.then HK12.out (fun z _ e => by omega)⟩)
set_option maxHeartbeats 1000000 in
theorem sameNil (w : World) : Calls Tryz.prog 11 #[.slice none 0 0, .slice none 0 0] w fun e w' => e = .returned (.bool true) ∧ w = w' := by
  go_enter Tryz.func11, Tryz.ntmps11
  go_wp2_with fail
  refine wp_loop_rounds 1 ?_
  rw [rounds_succ]
  go_wp2_with fail
  go_ret
  exact ⟨rfl, rfl⟩
end Go.Proofs.YtjhghagmnkjpkaaGreat
