/- Walk of layer 41: the operations of a text; the document's. -/
import Derived.Test.YthgpmpmnihijnaaDoorScOl
import Derived.Test.YthgpmpmnihijnaaDoorScLn
namespace Go.Proofs.YthgpmpmnihijnaaDoor
set_option linter.unusedVariables false
set_option linter.unusedSimpArgs false
open Go.RowKit Go.Shelf

theorem tOp : SlT Tryd.prog 23 40 (.agg #[.int .i64 0, .int .u32 0, .int .u32 0, .int .u64 0, .int .u64 0]) 5 32 := ⟨Tryd.underlying23, by kernel_rfl, rfl, by decide⟩
theorem heap_newM (w : World) (o : Obj) {n : Nat} (h : n = w.heap.size) : (w.alloc o).heap[n]? = some o := by subst h; exact heap_new w o
theorem own_full {w : World} {base : Nat} {e : TypeId} {size : Nat} {v : Value} {n : Nat} {xs : List Value} (h : w.ownsRow base e size v n xs) (hn : 0 < n) : ∃ g cap, v = .slice (some ⟨g, 0, none⟩) n cap ∧ base ≤ g ∧ n ≤ cap ∧ cap ≤ 9223372036854775807 := by
  rcases h.2 with ⟨_, h⟩ | ⟨g, cap, cur, hv, hg, _, h1, h2, _⟩
  · omega
  · exact ⟨g, cap, hv, hg, h1, by unfold maxLen at h2; omega⟩
theorem parts_size (c : UInt8) (l : List UInt8) : ∀ p ∈ parts c l, p.length ≤ l.length := by
  have h : (∀ p ∈ (pst c l).1, p.length ≤ l.length) ∧ (pst c l).2.length ≤ l.length := by
    refine snocInd (P := fun l => (∀ p ∈ (pst c l).1, p.length ≤ l.length) ∧ (pst c l).2.length ≤ l.length) (by simp [pst]) (fun l d ih => ?_) l
    rw [pst_snoc, List.length_append]
    unfold pstep
    split
    · refine ⟨fun p hp => ?_, by simp⟩
      rcases List.mem_append.1 hp with hp | hp
      · have := ih.1 p hp; omega
      · simp at hp; subst hp; have := ih.2; omega
    · refine ⟨fun p hp => ?_, ?_⟩
      · have := ih.1 p hp; omega
      · rw [List.length_append]; have := ih.2; simp; omega
  intro p hp
  unfold parts at hp
  rcases List.mem_append.1 hp with hp | hp
  · exact h.1 p hp
  · simp at hp; subst hp; exact h.2
theorem words_size (l : List UInt8) : ∀ p ∈ words l, p.length ≤ l.length := by
  have h : (∀ p ∈ (wst l).1, p.length ≤ l.length) ∧ (wst l).2.length ≤ l.length := by
    refine snocInd (P := fun l => (∀ p ∈ (wst l).1, p.length ≤ l.length) ∧ (wst l).2.length ≤ l.length) (by simp [wst]) (fun l d ih => ?_) l
    rw [wst_snoc, List.length_append]
    unfold wstep
    split
    · split
      · exact ⟨fun p hp => by have := ih.1 p hp; omega, by simp⟩
      · refine ⟨fun p hp => ?_, by simp⟩
        rcases List.mem_append.1 hp with hp | hp
        · have := ih.1 p hp; omega
        · simp at hp; subst hp; have := ih.2; omega
    · refine ⟨fun p hp => ?_, ?_⟩
      · have := ih.1 p hp; omega
      · rw [List.length_append]; have := ih.2; simp; omega
  intro p hp
  unfold words wend at hp
  split at hp
  · exact h.1 p hp
  · rcases List.mem_append.1 hp with hp | hp
    · exact h.1 p hp
    · simp at hp; subst hp; exact h.2
theorem words_many (l : List UInt8) : (words l).length ≤ l.length + 1 := by
  have := wst_len l
  unfold words wend
  split
  · omega
  · simp; omega
theorem map_bl_tx (l : List (List UInt8)) : (l.map tx).map bl = l := by simp [List.map_map, Function.comp_def, bl_tx]
theorem skip_nil {l : List UInt8} (h : words l = []) : skip l = true := by unfold skip; rw [h]
theorem skip_cons {l : List UInt8} {x : ByteArray} {r : List ByteArray} (h : words l = (x :: r).map bl) (h0 : 0 < x.size) : skip l = (x[0] == 35) := by
  unfold skip; rw [h]; show ((bl x).head? == some 35) = _
  rw [head_get x h0]; simp
theorem word_pos {l : List UInt8} {x : ByteArray} {r : List ByteArray} (h : words l = (x :: r).map bl) : 0 < x.size := by
  have := (words_words l (bl x) (by rw [h]; simp)).1
  rw [← bl_len]
  exact List.length_pos_iff.2 this
theorem lineE_one {l : List UInt8} {x : ByteArray} {r : List ByteArray} (h : words l = (x :: r).map bl) (hs : skip l = false) {o : OpR} {e : Int} (ho : oneL ((x :: r).map bl) = (o, e)) : lineE l = e := by
  unfold lineE; rw [hs, h, ho]; rfl
theorem lineE_skip {l : List UInt8} (h : skip l = true) : lineE l = 0 := by unfold lineE; rw [h]; rfl
/-- Between two lines. -/
structure RdI (ls : List (List UInt8)) (B : Nat) (w wr : World) (v : Value) (k : Nat) : Prop where
  good : ∀ y ∈ ls.take k, lineE y = 0
  own : wr.ownsRow B 40 5 v (outL (ls.take k)).length ((outL (ls.take k)).flatMap enO)
  kp : Kp none' w wr
theorem take_next {ls : List (List UInt8)} {k : Nat} (hk : k < ls.length) {x : List UInt8} (hx : ls[k] = x) : ls.take (k + 1) = ls.take k ++ [x] := by rw [List.take_succ_eq_append_getElem hk, hx]
theorem good_next {ls : List (List UInt8)} {k : Nat} (hk : k < ls.length) {x : List UInt8} (hx : ls[k] = x) (h : ∀ y ∈ ls.take k, lineE y = 0) (h0 : lineE x = 0) : ∀ y ∈ ls.take (k + 1), lineE y = 0 := by
  rw [take_next hk hx]
  intro y hy
  rcases List.mem_append.1 hy with hy | hy
  · exact h y hy
  · simp at hy; subst hy; exact h0
theorem RdI.pass {ls : List (List UInt8)} {B : Nat} {w wr w1 : World} {v : Value} {k : Nat} (h : RdI ls B w wr v k) (hk : k < ls.length) {x : List UInt8} (hx : ls[k] = x) (hs : skip x = true) (hk1 : Kp none' wr w1) : RdI ls B w w1 v (k + 1) :=
  ⟨good_next hk hx h.good (lineE_skip hs), by rw [take_next hk hx, outL_skip _ _ hs]; exact own_kp h.own hk1 (fun _ _ x => x), h.kp.trans hk1⟩
theorem RdI.next {ls : List (List UInt8)} {B : Nat} {w wr w1 : World} {v v1 : Value} {k : Nat} (h : RdI ls B w wr v k) (hk : k < ls.length) {x : List UInt8} (hx : ls[k] = x) (hs : skip x = false) (he : lineE x = 0) {o : OpR} (ho : (oneL (words x)).1 = o)
    (hown : w1.ownsRow B 40 5 v1 ((outL (ls.take k)).length + 1) ((outL (ls.take k)).flatMap enO ++ enO o)) (hk1 : Kp none' w w1) : RdI ls B w w1 v1 (k + 1) :=
  ⟨good_next hk hx h.good he, by rw [take_next hk hx, outL_snoc _ _ hs, ho, List.flatMap_append, List.length_append]; simpa using hown, hk1⟩
theorem RdI.bad {s : List UInt8} {B : Nat} {w wr : World} {v : Value} {k : Nat} (h : RdI (parts 10 s) B w wr v k) (hk : k < (parts 10 s).length) {x : List UInt8} (hx : (parts 10 s)[k] = x) {e : Int} (he : lineE x = e) (h0 : e ≠ 0) : readS s = ([], k + 1, e) := by
  have e1 : parts 10 s = (parts 10 s).take k ++ x :: (parts 10 s).drop (k + 1) := by rw [← hx, List.getElem_cons_drop, List.take_append_drop]
  have hf := fb_bad ((parts 10 s).take k) x ((parts 10 s).drop (k + 1)) h.good (by rw [he]; exact h0)
  rw [← e1, List.length_take, Nat.min_eq_left (by omega), he] at hf
  unfold readS; rw [hf]
theorem RdI.done {s : List UInt8} {B : Nat} {w wr : World} {v : Value} (h : RdI (parts 10 s) B w wr v (parts 10 s).length) : readS s = (outL (parts 10 s), 0, 0) ∧ wr.ownsRow B 40 5 v (outL (parts 10 s)).length ((outL (parts 10 s)).flatMap enO) := by
  have hg := h.good
  have ho := h.own
  rw [List.take_length] at hg ho
  unfold readS; rw [fb_good _ hg]
  exact ⟨rfl, ho⟩

set_option maxRecDepth 100000 in
set_option maxHeartbeats 4000000 in
theorem rReadS (s : ByteArray) (w : World) (hs : s.size ≤ 100000) : Calls Tryd.prog 8 #[.string s] w fun e w' => ∃ u, e = .returned (.tuple #[u, .int .i64 (readS (bl s)).2.1, .int .i64 (readS (bl s)).2.2]) ∧ Sl w' u (readS (bl s)).1.length 5 ((readS (bl s)).1.flatMap enO) ∧ Kp none' w w' := by
  have HLN := Lib.hid (rLines s w (by omega))
  have hpl := parts_length 10 (bl s)
  rw [bl_len] at hpl
  have HPS := Lib.hid (parts_size 10 (bl s))
  go_enter Tryd.func8, Tryd.ntmps8
  go_wp2_with fail
  refine (HLN.out).mono ?_
  rintro e wX ⟨v, rfl, hown, kX⟩
  obtain ⟨gl, lcap, rfl, hgl, _, _⟩ := own_full hown (by omega)
  have HOWN := Lib.hid hown
  have HKX := Lib.hid kX
  have hzX := kX.size
  obtain ⟨N, hN⟩ : ∃ N, (parts 10 (bl s)).length = N := ⟨_, rfl⟩
  rw [hN] at hpl
  simp only [hN]
  have HN := Lib.hid hN
  clear hown kX HLN hN
  go_wp2_with fail
  go_loopw [5, 7] (fun u i0 wr => ∃ k : Nat, i0 = .int .i64 k ∧ k ≤ N ∧ Hid (RdI (parts 10 (bl s)) wX.heap.size wX wr u k)) (fun _ i0 _ => N - (intOf i0).toNat)
  case atStart => exact ⟨0, rfl, by omega, ⟨fun y hy => by simp at hy, World.ownsRow_nil _ _ _ _, Kp.refl _ _⟩⟩
  case round =>
    obtain ⟨k, rfl, hk, hr⟩ := hrel
    obtain ⟨uo, ucap, rfl⟩ := own_shape hr.out.own
    have hzr := hr.out.kp.size
    by_cases hlt : k < N
    · have hkp : k < (parts 10 (bl s)).length := by rw [HN.out]; exact hlt
      have hki : (k : Int) < N := by omega
      obtain ⟨x, hx⟩ : ∃ x, (parts 10 (bl s))[k] = x := ⟨_, rfl⟩
      have hxs : (tx x).size ≤ 100000 := by
        have := HPS.out x (by rw [← hx]; exact List.getElem_mem hkp)
        rw [tx_size, bl_len] at *; omega
      have HX := Lib.hid hx
      obtain ⟨ao, cap', e, hc⟩ := (own_sl HOWN.out).is
      injection e with e1 _ e3
      obtain ⟨b, o, e2, hcell⟩ := hc k (.string (tx x)) (by simp [wtx, strs, hkp, hx])
      rw [← e1] at e2
      injection e2 with e2
      injection e2 with e2 e4 _
      subst e2 e4
      rw [Nat.zero_add] at hcell
      have hcell := hr.out.kp.cell hcell id
      have hol : (outL ((parts 10 (bl s)).take k)).length ≤ k := by
        have := outL_len ((parts 10 (bl s)).take k)
        rw [List.length_take] at this; omega
      clear hc e1 e3 hx
      have HWD := Lib.hid (rWords (tx x) wr (by omega))
      rw [bl_tx] at HWD
      go_wp2_with fail
      refine (HWD.out).mono ?_
      rintro e w1 ⟨v1, rfl, hown1, k1⟩
      have hz1 := k1.size
      obtain ⟨ws, hws⟩ : ∃ ws, (words x).map tx = ws := ⟨_, rfl⟩
      have hws2 : words x = ws.map bl := by rw [← hws, map_bl_tx]
      have hwl : (words x).length = ws.length := by rw [← hws, List.length_map]
      have hwm := words_many x
      rw [tx_size] at hxs
      have hwsz := words_size x
      unfold wtx at hown1
      rw [hws, hwl] at hown1
      have HW1 := Lib.hid hown1
      have HK1 := Lib.hid k1
      have HWS := Lib.hid hws2
      clear HWD hown1 k1 hws hcell
      cases ws with
      | nil =>
        have HSK := Lib.hid (hr.out.pass hkp HX.out (skip_nil hws2) HK1.out)
        have hv : v1 = .slice none 0 0 ∨ ∃ g c, v1 = .slice (some ⟨g, 0, none⟩) 0 c := by
          rcases HW1.out.2 with ⟨h, _⟩ | ⟨g, c, _, h, _⟩
          · exact .inl h
          · exact .inr ⟨g, c, h⟩
        clear hws2 hwl hwsz hwm
        rcases hv with rfl | ⟨g1, c1, rfl⟩
        all_goals
          go_wp2
          go_roundw
          case rel => exact ⟨k + 1, by go_num, by omega, HSK⟩
          case measure => simp [intOf]; omega
      | cons y r =>
        obtain ⟨g1, cap1, rfl, hg1, hc1, hc2⟩ := own_full HW1.out (by simp)
        have hp := word_pos hws2
        have hsk := skip_cons hws2 hp
        have hrl : r.length < 1000000 := by
          rw [hwl, List.length_cons] at hwm; omega
        have hrsz : ∀ z ∈ r, z.size ≤ 1000000 := fun z hz => by
          have := hwsz (bl z) (by rw [hws2]; simp only [List.map_cons, List.mem_cons, List.mem_map]; exact .inr ⟨z, hz, rfl⟩)
          rw [bl_len] at this; omega
        have hsl := own_sl HW1.out
        obtain ⟨ao, cap', e, hc⟩ := hsl.is
        injection e with e1 _ e3
        obtain ⟨b, o, e2, hcell⟩ := hc 0 (.string y) rfl
        rw [← e1] at e2
        injection e2 with e2
        injection e2 with e2 e4 _
        subst e2 e4
        rw [Nat.zero_add] at hcell
        have HONE := Lib.hid (rOne y r g1 0 cap1 w1 hsl hrsz hrl)
        have hpi : (0 : Int) < y.size := by omega
        have hrl2 : ¬ (((r.length + 1 : Nat) : Int) == 0) = true := by rw [beq_iff_eq]; omega
        clear hc e1 e3 hwl hwm hwsz hrsz hsl
        by_cases h35 : (y[0] == 35) = true
        · have h35n : y[0] = 35 := by simpa using h35
          have hcs : ((y[0].toNat : Int) == 35) = true := by rw [h35n]; rfl
          have HSK := Lib.hid (hr.out.pass hkp HX.out (by rw [hsk]; exact h35) HK1.out)
          clear h35 h35n hsk hws2 HONE
          go_wp2
          go_roundw
          case rel => exact ⟨k + 1, by go_num, by omega, HSK⟩
          case measure => simp [intOf]; omega
        · have hcs : ((y[0].toNat : Int) == 35) = false := by
            rw [beq_eq_false_iff_ne]; intro e
            have : y[0].toNat = 35 := by omega
            exact h35 (by rw [beq_iff_eq]; exact UInt8.toNat_inj.1 this)
          have hskf : skip x = false := by rw [hsk]; simpa using h35
          obtain ⟨⟨⟨ok, of, oi, on, ot⟩, er⟩, hoe⟩ : ∃ p, oneL ((y :: r).map bl) = p := ⟨_, rfl⟩
          have hle := lineE_one hws2 hskf hoe
          have hw1 : (oneL (words x)).1 = ⟨ok, of, oi, on, ot⟩ := by rw [hws2, hoe]
          have hone := HONE.out
          rw [hoe] at hone
          simp only [enO] at hone
          have HON := Lib.hid hone
          have HLE := Lib.hid hle; have HOW := Lib.hid hw1; have HSF := Lib.hid hskf
          clear h35 hsk hws2 HONE hone hle hw1 hskf hoe
          by_cases he : er = 0
          · subst he
            go_wp2_with fail
            refine (HON.out).mono ?_
            rintro e w2 ⟨rfl, k2⟩
            have HK2 := Lib.hid ((hr.out.kp.trans HK1.out).trans k2)
            have HOW2 := Lib.hid (own_kp (own_kp hr.out.own HK1.out (fun _ _ x => x)) k2 (fun _ _ x => x))
            have hz2 := k2.size
            clear k2
            go_wp2_with (at_builtin; refine wp_app1 tOp (.tmp 44) (.tmp 46) rfl rfl wX.heap.size ((HOW2.out.alloc _).alloc _) [.int .i64 ok, .int .u32 of, .int .u32 oi, .int .u64 on, .int .u64 ot] rfl rfl rfl (heap_newM _ _ (by simp)) rfl (by omega) (by omega) (by simp; omega) ?_)
            intro g3 cap3 w3 hown3 hgrow
            have HK3 : Hid (Kp none' wX w3) := ((HK2.out.alloc _).alloc _).grown hgrow (fun b e => .inr (own_block hr.out.own e).1)
            have HN3 := Lib.hid (hr.out.next hkp HX.out HSF.out HLE.out HOW.out hown3 HK3.out)
            clear hown3 hgrow
            go_wp2
            go_roundw
            case rel => exact ⟨k + 1, by go_num, by omega, HN3⟩
            case measure => simp [intOf]; omega
          · have heb : (er != 0) = true := by simpa using he
            have HB := Lib.hid (hr.out.bad hkp HX.out HLE.out he)
            clear he
            go_wp2_with fail
            refine (HON.out).mono ?_
            rintro e w2 ⟨rfl, k2⟩
            have HK2 := Lib.hid (HKX.out.trans ((hr.out.kp.trans HK1.out).trans k2))
            clear k2
            go_wp2
            refine bodyPost_ret (results_tmp3 rfl _ _ _) rfl ?_
            exact ⟨_, by rw [HB.out]; go_num, by rw [HB.out]; exact Sl.nil _ _, HK2.out.alloc _⟩
    · obtain rfl : k = N := by omega
      have hd := (show RdI (parts 10 (bl s)) wX.heap.size wX wr (.slice uo _ ucap) (parts 10 (bl s)).length by rw [HN.out]; exact hr.out).done
      have HD := Lib.hid hd
      clear hd
      have HKE := Lib.hid (HKX.out.trans hr.out.kp)
      go_wp2
      refine bodyPost_ret (results_tmp3 rfl _ _ _) rfl ?_
      exact ⟨_, by rw [HD.out.1]; rfl, by rw [HD.out.1]; exact own_sl HD.out.2, HKE.out⟩
end Go.Proofs.YthgpmpmnihijnaaDoor
