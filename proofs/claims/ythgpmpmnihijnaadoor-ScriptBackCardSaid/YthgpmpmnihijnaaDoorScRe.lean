/- Walk of layer 41: the operations of a text; the program's. -/
import Derived.Test.YthgpmpmnihijnaaDoorScRd
import Derived.Test.YthgpmpmnihijnaaDoorScSp
import Derived.Test.YthgpmpmnihijnaaDoorAppAt
import Derived.Test.YthgpmpmnihijnaaDoorDigT
import Derived.Shelf.RegionOpen
namespace Go.Proofs.YthgpmpmnihijnaaDoor
set_option linter.unusedVariables false
set_option linter.unusedSimpArgs false
open Go.RowKit Go.Maps Go.Shelf
attribute [local go_sem] Oper.semAt_some
/-- What the loop of Read keeps. N0: the first of its variables' blocks. -/
def ReI (N0 base : Nat) (pre : List ByteArray) (F : Nat → Prop) (W : World) : Prop :=
  ∃ v, Blk W (N0 + 3) [v] 23 ∧ W.ownsRow base 40 5 v (outL (pre.map bl)).length ((outL (pre.map bl)).flatMap enO) ∧ Blk W (N0 + 4) [.int .i64 (pre.length : Int)] 3 ∧ (∀ y ∈ pre.map bl, lineE y = 0) ∧
    Blk W N0 [.slice none 0 0] 23 ∧ Blk W (N0 + 1) [.int .i64 0] 3 ∧ Blk W (N0 + 2) [.int .i64 0] 24 ∧ F = fun b => (N0 ≤ b ∧ b < N0 + 5) ∨ v.ownBlock = some b
/-- Where Read leaves it. -/
def ReX (s : List UInt8) (N0 : Nat) (c : Code) (_ : List ByteArray) (_ : Nat → Prop) (W : World) : Prop :=
  c = .ret ∧ ∃ (k : Nat) (e : Int), readS s = ([], k, e) ∧ Blk W N0 [.slice none 0 0] 23 ∧ Blk W (N0 + 1) [.int .i64 (k : Int)] 3 ∧ Blk W (N0 + 2) [.int .i64 e] 24
theorem readS_bad {s : List UInt8} {pre post : List ByteArray} {x : ByteArray} (hx : (parts 10 s).map tx = pre ++ x :: post) (hg : ∀ y ∈ pre.map bl, lineE y = 0) {e : Int} (he : lineE (bl x) = e) (h0 : e ≠ 0) : readS s = ([], pre.length + 1, e) := by
  have h := congrArg (List.map bl) hx
  rw [map_bl_tx, List.map_append, List.map_cons] at h
  unfold readS
  rw [h, fb_bad _ _ _ hg (by rw [he]; exact h0), he, List.length_map]
theorem readS_good {s : List UInt8} (hg : ∀ y ∈ ((parts 10 s).map tx).map bl, lineE y = 0) : readS s = (outL (parts 10 s), 0, 0) := by
  rw [map_bl_tx] at hg
  unfold readS; rw [fb_good _ hg]
theorem keeps_of_kp {w w' : World} (h : Kp none' w w') : KeepsOthers w w' := ⟨h.size, fun k o hk _ => (h.block k (Array.getElem?_eq_some_iff.1 hk).1 id).trans hk⟩
/-- The variables of Read, new. -/
structure Five (w W : World) : Prop where
  b0 : Blk W w.heap.size [.slice none 0 0] 23
  b1 : Blk W (w.heap.size + 1) [.int .i64 0] 3
  b2 : Blk W (w.heap.size + 2) [.int .i64 0] 24
  b3 : Blk W (w.heap.size + 3) [.slice none 0 0] 23
  b4 : Blk W (w.heap.size + 4) [.int .i64 0] 3
  size : w.heap.size + 5 ≤ W.heap.size
  kp : Kp none' w W
theorem five_new (w : World) : Five w (((((w.alloc (.cells #[.slice none 0 0] 23)).alloc (.cells #[.int .i64 0] 3)).alloc (.cells #[.int .i64 0] 24)).alloc (.cells #[.slice none 0 0] 23)).alloc (.cells #[.int .i64 0] 3)) := by
  have e1 := (Blk.new w [.slice none 0 0] 23)
  have e2 := (Blk.new (w.alloc (.cells #[.slice none 0 0] 23)) [.int .i64 0] 3)
  have e3 := (Blk.new ((w.alloc (.cells #[.slice none 0 0] 23)).alloc (.cells #[.int .i64 0] 3)) [.int .i64 0] 24)
  have e4 := (Blk.new (((w.alloc (.cells #[.slice none 0 0] 23)).alloc (.cells #[.int .i64 0] 3)).alloc (.cells #[.int .i64 0] 24)) [.slice none 0 0] 23)
  have e5 := (Blk.new ((((w.alloc (.cells #[.slice none 0 0] 23)).alloc (.cells #[.int .i64 0] 3)).alloc (.cells #[.int .i64 0] 24)).alloc (.cells #[.slice none 0 0] 23)) [.int .i64 0] 3)
  simp only [World.size_alloc] at e2 e3 e4 e5
  exact ⟨(((e1.alloc _).alloc _).alloc _).alloc _, ((e2.alloc _).alloc _).alloc _, (e3.alloc _).alloc _, e4.alloc _, e5, by simp, (((((Kp.refl _ _).alloc _).alloc _).alloc _).alloc _).alloc _⟩
set_option maxRecDepth 100000 in
set_option maxHeartbeats 4000000 in
theorem sReadS (s : ByteArray) (w : World) (hs : s.size ≤ 100000) : Calls Tryd.prog 7 #[.string s] w fun e w' => ∃ u, e = .returned (.tuple #[u, .int .i64 (readS (bl s)).2.1, .int .i64 (readS (bl s)).2.2]) ∧ Sl w' u (readS (bl s)).1.length 5 ((readS (bl s)).1.flatMap enO) ∧ Kp none' w w' := by
  refine (callsIn_wide (n := 0)).1 ?_
  refine callsIn_of_wp_marks Tryd.func7 rfl trivial ?_ rfl
  simp only [Tryd.ntmps7, List.size_toArray, List.length_cons, List.length_nil, Nat.reduceAdd, Nat.reduceSub, Array.replicate_succ, Array.replicate_zero, List.push_toArray, List.append_toArray, List.nil_append, List.cons_append]
  have HSS := Lib.hid (fun W => sSplit s W)
  have hfive := five_new w
  have hpl := parts_length 10 (bl s)
  rw [bl_len] at hpl
  have HPS := Lib.hid (parts_size 10 (bl s))
  gi_wp2_with fail
  simp only [Nat.add_assoc, Nat.reduceAdd]
  refine ⟨trivial, rfl, (callsIn_wide.2 (HSS.out _)).mono ?_⟩
  rintro e w6 ⟨bsep, bs, b0, rfl, hsp⟩
  generalize ((((w.alloc (.cells #[.slice none 0 0] 23)).alloc (.cells #[.int .i64 0] 3)).alloc (.cells #[.int .i64 0] 24)).alloc (.cells #[.slice none 0 0] 23)).alloc (.cells #[.int .i64 0] 3) = w5 at *
  obtain ⟨N0, hN0⟩ : ∃ N0, w.heap.size = N0 := ⟨_, rfl⟩
  obtain ⟨g0, g1, g2, g3, g4, gz, gk⟩ := hfive
  rw [hN0] at g0 g1 g2 g3 g4 gz
  have hl1 := hsp.l1
  have hl2 := hsp.l2
  have hl3 := hsp.l3
  have q1 := hsp.sep.lt
  have q2 := hsp.s.lt
  have q3 := hsp.z.lt
  have hz6 := hsp.kp.size
  have x0 := g0.kp hsp.kp id
  have x1 := g1.kp hsp.kp id
  have x2 := g2.kp hsp.kp id
  have x3 := g3.kp hsp.kp id
  have x4 := g4.kp hsp.kp id
  have HK6 := Lib.hid (gk.trans hsp.kp)
  have HIT := Lib.hid (sIter hsp.sep hsp.s hsp.z (by omega) hsp.n1 hsp.n2)
  simp only [hN0]
  have HN0 := Lib.hid hN0
  clear hsp g0 g1 g2 g3 g4 gk HSS hN0
  gi_wp2_with fail
  have hbase : ∀ b, b = bs → b < w6.heap.size := by rintro b rfl; exact q2
  refine wp_rangeO (first := #[]) (captured := #[.pointer (some ⟨bsep, 0, none⟩), .pointer (some ⟨bs, 0, none⟩), .pointer (some ⟨b0, 0, none⟩)]) rfl (enters_of Tryd.func36 (by kernel_rfl) rfl) HIT.out (fun b h => .inr (.inl h)) (fun _ => rfl)
    (ReI N0 w6.heap.size) (ReX (bl s) N0)
    (fun pre F A B ⟨v, i1, i2, i3, i4, i5, i6, i7, i8⟩ k => ⟨v, i1.nco k.nc (by omega), own_nco i2 k.nc hbase, i3.nco k.nc (by omega), i4, i5.nco k.nc (by omega), i6.nco k.nc (by omega), i7.nco k.nc (by omega), i8⟩)
    (fun c pre F A B ⟨i1, k1, e1, i2, i3, i4, i5⟩ k => ⟨i1, k1, e1, i2, i3.nco k.nc (by omega), i4.nco k.nc (by omega), i5.nco k.nc (by omega)⟩)
    (fun b => (N0 ≤ b ∧ b < N0 + 5)) (by rintro b ⟨h1, h2⟩; omega) (by rintro b (rfl | rfl | rfl) <;> constructor <;> omega)
    ⟨_, x3, World.ownsRow_nil _ _ _ _, x4, (by simp), x0, x1, x2, by funext b; simp [Value.ownBlock]⟩
    (fun x a1 W => a1 = { tmps := #[.string s, undef, .pointer (some ⟨N0, 0, none⟩), .pointer (some ⟨N0 + 1, 0, none⟩), .pointer (some ⟨N0 + 2, 0, none⟩), .pointer (some ⟨N0 + 3, 0, none⟩), .pointer (some ⟨N0 + 4, 0, none⟩), .string x, undef, undef, undef,
      .string s, .func (.func 36) #[] #[.pointer (some ⟨bsep, 0, none⟩), .pointer (some ⟨bs, 0, none⟩), .pointer (some ⟨b0, 0, none⟩)], .string x, undef, undef, undef, undef, undef, undef, undef, undef, undef, undef, undef, undef, undef, undef, undef, undef, undef, undef, undef, undef, undef, undef, undef, undef, undef, undef, undef, undef], defers := [] })
    (fun x a A B h k => h) ?assign ?body ?done ?stop
  case assign =>
    intro lp x W K hz hK
    gi_wp2
    exact hK _ _ rfl (Kp.refl _ _)
  case body =>
    rintro lp pre F x post a1 W hx ⟨v, i1, i2, i3, i4, i5, i6, i7, rfl⟩ rfl hkp hFs
    have hpre : pre.length < 100001 := by
      have := congrArg List.length hx
      simp at this; omega
    have hxm : bl x ∈ parts 10 (bl s) := by
      have h := congrArg (List.map bl) hx
      rw [map_bl_tx] at h
      rw [h]; simp
    have hxs : x.size ≤ 100000 := by
      have := HPS.out (bl x) hxm
      rw [bl_len, bl_len] at this; omega
    have c6 := i3.cell 0 rfl
    have f6 := i3.fz 0
    have hzW : w6.heap.size ≤ W.heap.size := hkp.size
    have hol : (outL (pre.map bl)).length ≤ pre.length := by
      have := outL_len (pre.map bl)
      rw [List.length_map] at this; exact this
    have hvb : ∀ b, v.ownBlock = some b → w6.heap.size ≤ b := fun b hb => (own_block i2 hb).1
    obtain ⟨Fx, hFx⟩ : ∃ Fx : Nat → Prop, Fx = fun b => (N0 ≤ b ∧ b < N0 + 5) ∨ v.ownBlock = some b := ⟨_, rfl⟩
    have HF : Hid (∀ b, (N0 ≤ b ∧ b < N0 + 5) → Fx b) := by show ∀ b, _ → _; rw [hFx]; exact fun b h => .inl h
    have HFv : Hid (∀ b, v.ownBlock = some b → Fx b) := by show ∀ b, _ → _; rw [hFx]; exact fun b h => .inr h
    have HFx := Lib.hid hFx
    rw [← hFx]
    obtain ⟨W1, hW1⟩ : ∃ W1, W.setCell ⟨N0 + 4, 0, none⟩ (.int .i64 ((pre.length : Int) + 1)) = W1 := ⟨_, rfl⟩
    have HW1 := Lib.hid hW1
    have j0 : Blk W1 N0 [.slice none 0 0] 23 := by rw [← hW1]; exact i5.setNe (a := ⟨N0 + 4, 0, none⟩) (by show N0 ≠ N0 + 4; omega) _
    have j1 : Blk W1 (N0 + 1) [.int .i64 0] 3 := by rw [← hW1]; exact i6.setNe (a := ⟨N0 + 4, 0, none⟩) (by show N0 + 1 ≠ N0 + 4; omega) _
    have j2 : Blk W1 (N0 + 2) [.int .i64 0] 24 := by rw [← hW1]; exact i7.setNe (a := ⟨N0 + 4, 0, none⟩) (by show N0 + 2 ≠ N0 + 4; omega) _
    have j3 : Blk W1 (N0 + 3) [v] 23 := by rw [← hW1]; exact i1.setNe (a := ⟨N0 + 4, 0, none⟩) (by show N0 + 3 ≠ N0 + 4; omega) _
    have j4 : Blk W1 (N0 + 4) [.int .i64 ((pre.length : Int) + 1)] 3 := by rw [← hW1]; exact i3.set 0 _
    have jo : W1.ownsRow w6.heap.size 40 5 v (outL (pre.map bl)).length ((outL (pre.map bl)).flatMap enO) := by rw [← hW1]; exact ownsRow_setCell_below i2 (a := ⟨N0 + 4, 0, none⟩) (show N0 + 4 < w6.heap.size by omega) _
    have jk : Kp Fx W W1 := by rw [← hW1]; exact (Kp.refl _ _).set (p := ⟨N0 + 4, 0, none⟩) (.inl (HF.out (N0 + 4) ⟨by omega, by omega⟩)) _
    have jf : KeepsOthers W W1 := by rw [← hW1]; exact KeepsOthers.setCell _ _ _
    have hz1 := jk.size
    have HWD := Lib.hid (dWords x W1 (by omega))
    have HX := Lib.hid hx; have HG := Lib.hid i4
    clear hkp hFs i1 i2 i3 i5 i6 i7 i4 hx hxm hFx hW1
    gi_wp2_with fail
    rw [HW1.out]
    refine ⟨trivial, rfl, (CallsIn.inRound lp (callsIn_wide.2 HWD.out)).mono ?_⟩
    rintro e W2 ⟨v1, rfl, hown1, k1⟩
    have hz2 := k1.size
    obtain ⟨ws, hws⟩ : ∃ ws, (words (bl x)).map tx = ws := ⟨_, rfl⟩
    have hws2 : words (bl x) = ws.map bl := by rw [← hws, map_bl_tx]
    have hwl : (words (bl x)).length = ws.length := by rw [← hws, List.length_map]
    have hwm := words_many (bl x)
    rw [bl_len] at hwm
    have hwsz := words_size (bl x)
    unfold wtx at hown1
    rw [hws, hwl] at hown1
    have HOW1 := Lib.hid hown1
    have J0 := Lib.hid (j0.kp k1 id); have J1 := Lib.hid (j1.kp k1 id); have J2 := Lib.hid (j2.kp k1 id); have J3 := Lib.hid (j3.kp k1 id); have J4 := Lib.hid (j4.kp k1 id)
    have JO := Lib.hid (own_kp jo k1 (fun _ _ x => x))
    have JK := Lib.hid (jk.then k1 (fun _ _ x => x.elim))
    have JF := Lib.hid (jf.trans (keeps_of_kp k1))
    clear HWD hown1 k1 hws j0 j1 j2 j3 j4 jo jk jf c6 f6 HW1
    cases ws with
    | nil =>
      have hsk := skip_nil hws2
      have hv : v1 = .slice none 0 0 ∨ ∃ g c, v1 = .slice (some ⟨g, 0, none⟩) 0 c := by
        rcases HOW1.out.2 with ⟨h, _⟩ | ⟨g, c, _, h, _⟩
        · exact .inl h
        · exact .inr ⟨g, c, h⟩
      have HR : Hid (ReI N0 w6.heap.size (pre ++ [x]) Fx W2) := by
        refine ⟨v, J3.out, ?_, ?_, ?_, J0.out, J1.out, J2.out, HFx.out⟩
        · rw [List.map_append, List.map_cons, List.map_nil, outL_skip _ _ hsk]; exact JO.out
        · rw [List.length_append]; exact J4.out
        · intro y hy
          rw [List.map_append] at hy
          rcases List.mem_append.1 hy with hy | hy
          · exact HG.out y hy
          · simp at hy; subst hy; exact lineE_skip hsk
      clear hws2 hwl hwsz hwm hsk
      rcases hv with rfl | ⟨g1, c1, rfl⟩
      all_goals
        gi_wp2
        exact ⟨_, HR.out, JK.out, fun b h => .inl h, KeepsOthers.kf JF.out⟩
    | cons y r =>
      obtain ⟨ga, cap1, rfl, hg1, hc1, hc2⟩ := own_full HOW1.out (by simp)
      have hp := word_pos hws2
      have hsk := skip_cons hws2 hp
      have hrl : r.length < 1000000 := by
        rw [hwl, List.length_cons] at hwm; omega
      have hrsz : ∀ z ∈ r, z.size ≤ 1000000 := fun z hz => by
        have := hwsz (bl z) (by rw [hws2]; simp only [List.map_cons, List.mem_cons, List.mem_map]; exact .inr ⟨z, hz, rfl⟩)
        rw [bl_len, bl_len] at this; omega
      have hsl := own_sl HOW1.out
      obtain ⟨ao, cap', e, hc⟩ := hsl.is
      injection e with e1 _ e3
      obtain ⟨b, o, e2, hcell⟩ := hc 0 (.string y) rfl
      rw [← e1] at e2
      injection e2 with e2
      injection e2 with e2 e4 _
      subst e2 e4
      rw [Nat.zero_add] at hcell
      have hone := sOne y r ga 0 cap1 W2 hsl hc1 hc2 hrsz hrl
      have hpi : (0 : Int) < y.size := by omega
      clear hc e1 e3 hwl hwm hwsz hrsz hsl
      by_cases h35 : (y[0] == 35) = true
      · have h35n : y[0] = 35 := by simpa using h35
        have hcs : ((y[0].toNat : Int) == 35) = true := by rw [h35n]; rfl
        have hskt : skip (bl x) = true := by rw [hsk]; exact h35
        have HR : Hid (ReI N0 w6.heap.size (pre ++ [x]) Fx W2) := by
          refine ⟨v, J3.out, ?_, ?_, ?_, J0.out, J1.out, J2.out, HFx.out⟩
          · rw [List.map_append, List.map_cons, List.map_nil, outL_skip _ _ hskt]; exact JO.out
          · rw [List.length_append]; exact J4.out
          · intro z hz
            rw [List.map_append] at hz
            rcases List.mem_append.1 hz with hz | hz
            · exact HG.out z hz
            · simp at hz; subst hz; exact lineE_skip hskt
        clear h35 h35n hsk hws2 hone hskt
        gi_wp2
        exact ⟨_, HR.out, JK.out, fun b h => .inl h, KeepsOthers.kf JF.out⟩
      · have hcs : ((y[0].toNat : Int) == 35) = false := by
          rw [beq_eq_false_iff_ne]; intro e
          have : y[0].toNat = 35 := by omega
          exact h35 (by rw [beq_iff_eq]; exact UInt8.toNat_inj.1 this)
        have hskf : skip (bl x) = false := by rw [hsk]; simpa using h35
        obtain ⟨⟨⟨ok, of, oi, on, ot⟩, er⟩, hoe⟩ : ∃ p, oneL ((y :: r).map bl) = p := ⟨_, rfl⟩
        have hle := lineE_one hws2 hskf hoe
        have hw1 : (oneL (words (bl x))).1 = ⟨ok, of, oi, on, ot⟩ := by rw [hws2, hoe]
        rw [hoe] at hone
        simp only [enO] at hone
        have HON := Lib.hid hone
        have HOW := Lib.hid hw1
        clear h35 hsk hws2 hone hw1 hoe
        gi_wp2_with fail
        refine ⟨trivial, rfl, (CallsIn.inRound lp (callsIn_wide.2 HON.out)).mono ?_⟩
        rintro e W3 ⟨rfl, k3⟩
        have hz3 := k3.size
        have L0 := Lib.hid (J0.out.kp k3 id); have L1 := Lib.hid (J1.out.kp k3 id); have L2 := Lib.hid (J2.out.kp k3 id); have L3 := Lib.hid (J3.out.kp k3 id); have L4 := Lib.hid (J4.out.kp k3 id)
        have LO := Lib.hid (own_kp JO.out k3 (fun _ _ x => x))
        have LK := Lib.hid (JK.out.then k3 (fun _ _ x => x.elim))
        have LF := Lib.hid (JF.out.trans (keeps_of_kp k3))
        have c3 := L3.out.cell 0 rfl
        have c4 := L4.out.cell 0 rfl
        have n3 := L3.out.lt
        clear k3
        by_cases he : er = 0
        · subst he
          have HLE := Lib.hid hle; have HSF := Lib.hid hskf
          clear hle hskf
          obtain ⟨vo, vcap, rfl⟩ := own_shape LO.out
          have hln : (outL (pre.map bl)).length < 100001 := by omega
          gi_wp2_with (gi_at_builtin; refine wpIn_app1_at tOp (.tmp 37) (.tmp 39) rfl rfl w6.heap.size ((LO.out.alloc _).alloc _) [.int .i64 ok, .int .u32 of, .int .u32 oi, .int .u64 on, .int .u64 ot] rfl rfl rfl (heap_newM _ _ (by simp)) rfl (by omega) (by omega) (by simp; omega) ?_)
          intro g4 cap4 W4 hown4 hgrow hat
          have hne : ∀ b, b < w6.heap.size → some b ≠ (Value.slice vo (outL (pre.map bl)).length vcap).ownBlock := fun b hb e => by have := hvb b e.symm; omega
          have M0 := Lib.hid (((L0.out.alloc _).alloc _).grown hgrow (hne _ (by omega)))
          have M1 := Lib.hid (((L1.out.alloc _).alloc _).grown hgrow (hne _ (by omega)))
          have M2 := Lib.hid (((L2.out.alloc _).alloc _).grown hgrow (hne _ (by omega)))
          have M3 := Lib.hid (((L3.out.alloc _).alloc _).grown hgrow (hne _ (by omega)))
          have M4 := Lib.hid (((L4.out.alloc _).alloc _).grown hgrow (hne _ (by omega)))
          have MK := Lib.hid (((LK.out.alloc _).alloc _).grown hgrow (fun b e => .inl (HFv.out b e)))
          have MF := Lib.hid (((LF.out.trans (KeepsOthers.alloc _ _)).trans (KeepsOthers.alloc _ _)).trans (own_cells ((LO.out.alloc _).alloc _) hgrow))
          have MO := Lib.hid hown4
          have hgn : Hid (∀ b, (Value.slice (some ⟨g4, 0, none⟩) ((outL (pre.map bl)).length + 1) cap4).ownBlock = some b → (Value.slice vo (outL (pre.map bl)).length vcap).ownBlock = some b ∨ W.heap.size ≤ b) := by
            intro b hbg
            simp only [Value.ownBlock, Option.some.injEq] at hbg
            subst hbg
            rcases hat with h | h
            · exact .inl h
            · exact .inr (by rw [h]; first | (simp; omega) | omega)
          have d3 := M3.out.cell 0 rfl
          have f3 := M3.out.fz 0
          clear hown4 hgrow hat hne c3 c4
          gi_wp2
          refine ⟨_, ⟨_, M3.out.set 0 _, ?_, M4.out.setNe (a := ⟨N0 + 3, 0, none⟩) (by show N0 + 4 ≠ N0 + 3; omega) _ |> fun h => (by rw [List.length_append]; exact h), ?_, M0.out.setNe (a := ⟨N0 + 3, 0, none⟩) (by show N0 ≠ N0 + 3; omega) _, M1.out.setNe (a := ⟨N0 + 3, 0, none⟩) (by show N0 + 1 ≠ N0 + 3; omega) _, M2.out.setNe (a := ⟨N0 + 3, 0, none⟩) (by show N0 + 2 ≠ N0 + 3; omega) _, rfl⟩,
            MK.out.set (p := ⟨N0 + 3, 0, none⟩) (.inl (HF.out (N0 + 3) ⟨by omega, by omega⟩)) _, fun b hb => ?_, KeepsOthers.kf (MF.out.trans (KeepsOthers.setCell _ _ _))⟩
          · rw [List.map_append, List.map_cons, List.map_nil, outL_snoc _ _ HSF.out, HOW.out, List.flatMap_append, List.length_append]
            have h2 := ownsRow_setCell_below MO.out (a := ⟨N0 + 3, 0, none⟩) (show N0 + 3 < w6.heap.size by omega) (.slice (some ⟨g4, 0, none⟩) ((outL (pre.map bl)).length + 1) cap4)
            simpa [enO] using h2
          · intro z hz
            rw [List.map_append] at hz
            rcases List.mem_append.1 hz with hz | hz
            · exact HG.out z hz
            · simp at hz; subst hz; exact HLE.out
          · rcases hb with hb | hb
            · exact .inl (HF.out b hb)
            · rcases hgn.out b hb with h | h
              · exact .inl (HFv.out b h)
              · exact .inr h
        · have heb : (er != 0) = true := by simpa using he
          have HB := Lib.hid (readS_bad HX.out HG.out hle he)
          obtain ⟨W4, hW4⟩ : ∃ W4, W3.alloc (.cells #[.int .i64 ok, .int .u32 of, .int .u32 oi, .int .u64 on, .int .u64 ot] 40) = W4 := ⟨_, rfl⟩
          have HW4 := Lib.hid hW4
          have M0 : Hid (Blk W4 N0 [.slice none 0 0] 23) := by show Blk _ _ _ _; rw [← hW4]; exact L0.out.alloc _
          have M1 : Hid (Blk W4 (N0 + 1) [.int .i64 0] 3) := by show Blk _ _ _ _; rw [← hW4]; exact L1.out.alloc _
          have M2 : Hid (Blk W4 (N0 + 2) [.int .i64 0] 24) := by show Blk _ _ _ _; rw [← hW4]; exact L2.out.alloc _
          have M4 : Hid (Blk W4 (N0 + 4) [.int .i64 ((pre.length : Int) + 1)] 3) := by show Blk _ _ _ _; rw [← hW4]; exact L4.out.alloc _
          have MK : Hid (Kp Fx W W4) := by show Kp _ _ _; rw [← hW4]; exact LK.out.alloc _
          have MF : Hid (KeepsOthers W W4) := by show KeepsOthers _ _; rw [← hW4]; exact LF.out.trans (KeepsOthers.alloc _ _)
          have f0 := M0.out.fz 0
          have f1 := M1.out.fz 0
          have f2 := M2.out.fz 0
          have d0 := M0.out.cell 0 rfl
          have d1 := M1.out.cell 0 rfl
          have d2 := M2.out.cell 0 rfl
          have d4 := M4.out.cell 0 rfl
          obtain ⟨W5, hW5⟩ : ∃ W5, (((W4.setCell ⟨N0, 0, none⟩ (.slice none 0 0)).setCell ⟨N0 + 1, 0, none⟩ (.int .i64 ((pre.length : Int) + 1))).setCell ⟨N0 + 2, 0, none⟩ (.int .i64 er)).drew = W5 := ⟨_, rfl⟩
          have P0 : Blk W5 N0 [.slice none 0 0] 23 := by rw [← hW5]; exact (((M0.out.set 0 _).setNe (a := ⟨N0 + 1, 0, none⟩) (by show N0 ≠ N0 + 1; omega) _).setNe (a := ⟨N0 + 2, 0, none⟩) (by show N0 ≠ N0 + 2; omega) _).drew
          have P1 : Blk W5 (N0 + 1) [.int .i64 ((pre.length : Int) + 1)] 3 := by rw [← hW5]; exact (((M1.out.setNe (a := ⟨N0, 0, none⟩) (by show N0 + 1 ≠ N0; omega) _).set 0 _).setNe (a := ⟨N0 + 2, 0, none⟩) (by show N0 + 1 ≠ N0 + 2; omega) _).drew
          have P2 : Blk W5 (N0 + 2) [.int .i64 er] 24 := by rw [← hW5]; exact (((M2.out.setNe (a := ⟨N0, 0, none⟩) (by show N0 + 2 ≠ N0; omega) _).setNe (a := ⟨N0 + 1, 0, none⟩) (by show N0 + 2 ≠ N0 + 1; omega) _).set 0 _).drew
          have PK : Kp Fx W W5 := by rw [← hW5]; exact (((MK.out.set (p := ⟨N0, 0, none⟩) (.inl (HF.out N0 ⟨by omega, by omega⟩)) _).set (p := ⟨N0 + 1, 0, none⟩) (.inl (HF.out (N0 + 1) ⟨by omega, by omega⟩)) _).set (p := ⟨N0 + 2, 0, none⟩) (.inl (HF.out (N0 + 2) ⟨by omega, by omega⟩)) _).drew
          have PF : KeepsOthers W W5 := by rw [← hW5]; exact ((((MF.out.trans (KeepsOthers.setCell _ _ _)).trans (KeepsOthers.setCell _ _ _)).trans (KeepsOthers.setCell _ _ _))).trans (KeepsOthers.drew _)
          have HP : Hid (∃ F', ReX (bl s) N0 .ret (pre ++ [x]) F' W5 ∧ Kp Fx W W5 ∧ (∀ b, F' b → Fx b ∨ W.heap.size ≤ b) ∧ KF w6.heap.size W W5) :=
            ⟨Fx, ⟨rfl, _, _, HB.out, P0, P1, P2⟩, PK, fun b h => .inl h, KeepsOthers.kf PF⟩
          have HW5 := Lib.hid hW5
          have hfm : Tryd.prog.follows Departure.mixedOrders = true := by kernel_rfl
          clear hle hskf he hW4 c3 c4 P0 P1 P2 PK PF hW5 HB
          gi_wp2_with fail
          rw [HW4.out]
          gi_region_o
          all_goals gi_wp2
          all_goals (rw [HW5.out]; exact HP.out)
  case done =>
    rintro D F W ⟨v, i1, i2, i3, i4, i5, i6, i7, _⟩ hkp hD hK
    obtain ⟨vo, vcap, rfl⟩ := own_shape i2
    generalize hvn : (outL (((parts 10 (bl s)).map tx).map bl)).length = vn at *
    rw [map_bl_tx] at hvn
    have hrs := readS_good i4
    have hown : W.ownsRow w6.heap.size 40 5 (.slice vo vn vcap) (outL (parts 10 (bl s))).length ((outL (parts 10 (bl s))).flatMap enO) := by rw [map_bl_tx] at i2; rw [hvn]; exact i2
    have c3 := i1.cell 0 rfl
    have d0 := i5.cell 0 rfl
    have d1 := i6.cell 0 rfl
    have d2 := i7.cell 0 rfl
    have f0 := i5.fz 0
    have f1 := i6.fz 0
    have f2 := i7.fz 0
    obtain ⟨W5, hW5⟩ : ∃ W5, ((W.setCell ⟨N0, 0, none⟩ (.slice vo vn vcap)).setCell ⟨N0 + 1, 0, none⟩ (.int .i64 0)).setCell ⟨N0 + 2, 0, none⟩ (.int .i64 0) = W5 := ⟨_, rfl⟩
    have P0 : Blk W5 N0 [.slice vo vn vcap] 23 := by rw [← hW5]; exact (((i5.set 0 _).setNe (a := ⟨N0 + 1, 0, none⟩) (by show N0 ≠ N0 + 1; omega) _).setNe (a := ⟨N0 + 2, 0, none⟩) (by show N0 ≠ N0 + 2; omega) _)
    have P1 : Blk W5 (N0 + 1) [.int .i64 0] 3 := by rw [← hW5]; exact (((i6.setNe (a := ⟨N0, 0, none⟩) (by show N0 + 1 ≠ N0; omega) _).set 0 _).setNe (a := ⟨N0 + 2, 0, none⟩) (by show N0 + 1 ≠ N0 + 2; omega) _)
    have P2 : Blk W5 (N0 + 2) [.int .i64 0] 24 := by rw [← hW5]; exact (((i7.setNe (a := ⟨N0, 0, none⟩) (by show N0 + 2 ≠ N0; omega) _).setNe (a := ⟨N0 + 1, 0, none⟩) (by show N0 + 2 ≠ N0 + 1; omega) _).set 0 _)
    have PO : W5.ownsRow w6.heap.size 40 5 (.slice vo vn vcap) (outL (parts 10 (bl s))).length ((outL (parts 10 (bl s))).flatMap enO) := by
      rw [← hW5]
      exact ownsRow_setCell_below (ownsRow_setCell_below (ownsRow_setCell_below hown (a := ⟨N0, 0, none⟩) (show N0 < w6.heap.size by omega) _) (a := ⟨N0 + 1, 0, none⟩) (show N0 + 1 < w6.heap.size by omega) _) (a := ⟨N0 + 2, 0, none⟩) (show N0 + 2 < w6.heap.size by omega) _
    have PK : Kp (fun b => (N0 ≤ b ∧ b < N0 + 5) ∨ b = bs) w6 W5 := by rw [← hW5]; exact (((hkp.set (p := ⟨N0, 0, none⟩) (.inl (.inl ⟨by show N0 ≤ N0; omega, by show N0 < N0 + 5; omega⟩)) _).set (p := ⟨N0 + 1, 0, none⟩) (.inl (.inl ⟨by show N0 ≤ N0 + 1; omega, by show N0 + 1 < N0 + 5; omega⟩)) _).set (p := ⟨N0 + 2, 0, none⟩) (.inl (.inl ⟨by show N0 ≤ N0 + 2; omega, by show N0 + 2 < N0 + 5; omega⟩)) _)
    have PD : W5.heap[D]? = some (.deferred (some [])) := by rw [← hW5]; exact (((KeepsOthers.setCell W _ _).trans (KeepsOthers.setCell _ _ _)).trans (KeepsOthers.setCell _ _ _)).same D _ hK rfl
    have PKw : Hid (Kp none' w (W5.putObj D (.deferred none))) := by
      have h1 : Kp (fun b => N0 ≤ b) w W5 := (HK6.out.mono (T := fun b => N0 ≤ b) (fun _ _ x => x.elim)).then PK (fun b hb h => by rcases h with h | h; exact h.1; omega)
      exact (h1.put (.inl (show N0 ≤ D by omega)) _).mono (fun b hb h => by have := HN0.out; omega)
    have e0 := (P0.nc (NC.put (.deferred none) PD rfl)).cell 0 rfl
    have e1 := (P1.nc (NC.put (.deferred none) PD rfl)).cell 0 rfl
    have e2 := (P2.nc (NC.put (.deferred none) PD rfl)).cell 0 rfl
    have eo := Lib.hid (own_nc PO (NC.put (.deferred none) PD rfl))
    have HW5 := Lib.hid hW5; have HPD := Lib.hid PD; have HRS := Lib.hid hrs
    clear i1 i2 i3 i4 i5 i6 i7 hkp hK hrs hown P0 P1 P2 PO PK PD hW5
    gi_wp2_with fail
    rw [HW5.out]
    refine ⟨by simp, .inl ⟨_, _, rfl, run_takeDeferred HPD.out, ?_⟩⟩
    refine ⟨.tuple #[.slice vo vn vcap, .int .i64 0, .int .i64 0], by simp [results, Tryd.results7, go_sem, e0, e1, e2], _, by rw [HRS.out]; rfl, by rw [HRS.out]; exact own_sl eo.out, PKw.out⟩
  case stop =>
    rintro D c pre F W ⟨rfl, k, e, hr, h0, h1, h2⟩ hkp hD hK
    have PKw : Hid (Kp none' w (W.putObj D (.deferred none))) := by
      have h1 : Kp (fun b => N0 ≤ b) w W := (HK6.out.mono (T := fun b => N0 ≤ b) (fun _ _ x => x.elim)).then hkp (fun b hb h => by rcases h with h | h; exact h.1; omega)
      exact (h1.put (.inl (show N0 ≤ D by omega)) _).mono (fun b hb h => by have := HN0.out; omega)
    have e0 := (h0.nc (NC.put (.deferred none) hK rfl)).cell 0 rfl
    have e1 := (h1.nc (NC.put (.deferred none) hK rfl)).cell 0 rfl
    have e2 := (h2.nc (NC.put (.deferred none) hK rfl)).cell 0 rfl
    have HPD := Lib.hid hK; have HRS := Lib.hid hr
    clear h0 h1 h2 hkp hK hr
    gi_wp2_with fail
    refine ⟨by simp, .inl ⟨_, _, rfl, run_takeDeferred HPD.out, ?_⟩⟩
    refine ⟨.tuple #[.slice none 0 0, .int .i64 k, .int .i64 e], by simp [results, Tryd.results7, go_sem, e0, e1, e2], _, by rw [HRS.out], by rw [HRS.out]; exact Sl.nil _ _, PKw.out⟩
end Go.Proofs.YthgpmpmnihijnaaDoor
