/- Walks of layer 41: a line's numbers. -/
import Derived.Test.YthgpmpmnihijnaaDoorScU
import Derived.Test.YthgpmpmnihijnaaDoorDigX
namespace Go.Proofs.YthgpmpmnihijnaaDoor
set_option linter.unusedVariables false
set_option linter.unusedSimpArgs false
open Go.RowKit Go.Shelf

def u64s (l : List Nat) : List Value := l.map fun n : Nat => .int .u64 (n : Int)
theorem u64s_len (l : List Nat) : (u64s l).length = l.length := by simp [u64s]
theorem tU64 : SlT Tryd.prog 65 38 (.int .u64 0) 1 8 := ⟨Tryd.underlying65, by kernel_rfl, rfl, by decide⟩
structure NumI (xs : List ByteArray) (small B : Nat) (w wr : World) (v : Value) (j : Nat) : Prop where
  good : ∀ (i : Nat) (h2 : i < xs.length), i < j → e1 small i (bl xs[i]) = 0
  own : wr.ownsRow B 38 1 v j (u64s (vals ((xs.map bl).take j)))
  kp : Kp none' w wr
theorem vals_snoc (xs : List ByteArray) (j : Nat) (h : j < xs.length) : u64s (vals ((xs.map bl).take (j + 1))) = u64s (vals ((xs.map bl).take j)) ++ [.int .u64 ((rdU (bl xs[j])).1 : Int)] := by
  have h' : j < (xs.map bl).length := by simpa using h
  rw [List.take_succ_eq_append_getElem h']
  simp [vals, u64s]
theorem NumI.next {xs : List ByteArray} {small B : Nat} {w wr w1 : World} {v v1 : Value} {j : Nat} (hI : NumI xs small B w wr v j) (hj : j < xs.length) {n : Nat} (hn : (rdU (bl xs[j])).1 = n) (he : e1 small j (bl xs[j]) = 0)
    (hown : w1.ownsRow B 38 1 v1 (j + 1) (u64s (vals ((xs.map bl).take j)) ++ [.int .u64 (n : Int)])) (hk : Kp none' w w1) : NumI xs small B w w1 v1 (j + 1) :=
  ⟨fun i h2 hi => by
    by_cases hij : i = j
    · subst hij; exact he
    · exact hI.good i h2 (by omega), by rw [vals_snoc xs j hj, hn]; exact hown, hk⟩
theorem NumI.bad {xs : List ByteArray} {small B : Nat} {w wr : World} {v : Value} {j : Nat} (hI : NumI xs small B w wr v j) (hj : j < xs.length) {e : Int} (he : e1 small j (bl xs[j]) = e) (h0 : e ≠ 0) : es small 0 (xs.map bl) = e := by
  have hj' : j < (xs.map bl).length := by simpa using hj
  have hg : (xs.map bl)[j] = bl xs[j] := by simp
  rw [es_bad (small := small) (xs.map bl) 0 j hj' (fun i h hi => by rw [Nat.zero_add]; have := hI.good i (by simpa using h) hi; simpa using this) (by rw [Nat.zero_add, hg, he]; exact h0), Nat.zero_add, hg, he]
theorem NumI.done {xs : List ByteArray} {small B : Nat} {w wr : World} {v : Value} (hI : NumI xs small B w wr v xs.length) : es small 0 (xs.map bl) = 0 ∧ wr.ownsRow B 38 1 v xs.length (u64s (vals (xs.map bl))) := by
  refine ⟨es_good (xs.map bl) 0 (fun i h => ?_), ?_⟩
  · have h' : i < xs.length := by simpa using h
    rw [Nat.zero_add]; have := hI.good i h' h'; simpa using this
  · have := hI.own
    rwa [List.take_of_length_le (by simp)] at this
theorem e1_err {small j : Nat} {x : List UInt8} {n : Nat} {e : Int} (h : rdU x = (n, e)) (he : e ≠ 0) : e1 small j x = e := by unfold e1; rw [h]; simp [he]
theorem e1_over {small j : Nat} {x : List UInt8} {n : Nat} (h : rdU x = (n, 0)) (hj : j < small) (hn : 4294967296 ≤ n) : e1 small j x = 5 := by unfold e1; rw [h]; simp [hj, hn]
theorem e1_ok {small j : Nat} {x : List UInt8} {n : Nat} (h : rdU x = (n, 0)) (hj : ¬ (j < small ∧ 4294967296 ≤ n)) : e1 small j x = 0 := by unfold e1; rw [h]; simp only [ne_eq, not_true, if_false]; rw [if_neg hj]

set_option maxRecDepth 100000 in
set_option maxHeartbeats 2000000 in
theorem sNumbers (xs : List ByteArray) (v : Value) (small : Nat) (w : World) (h : Sl w v xs.length 1 (strs xs)) (hsz : ∀ x ∈ xs, x.size ≤ 1000000) (hn : xs.length ≤ 1000) :
    Calls Tryd.prog 27 #[v, .int .i64 small] w fun e w' => Kp none' w w' ∧ ((es small 0 (xs.map bl) ≠ 0 ∧ e = .returned (.tuple #[.slice none 0 0, .int .i64 (es small 0 (xs.map bl))])) ∨
      (es small 0 (xs.map bl) = 0 ∧ ∃ u, e = .returned (.tuple #[u, .int .i64 0]) ∧ w'.ownsRow w.heap.size 38 1 u xs.length (u64s (vals (xs.map bl))))) := by
  obtain ⟨ao, cap, rfl, _⟩ := h.is
  have HX := Lib.hid h
  have HSZ := Lib.hid hsz
  clear h hsz
  go_enter Tryd.func27, Tryd.ntmps27
  go_wp2
  go_loopw [6, 13] (fun u i0 wr => ∃ j : Nat, i0 = .int .i64 j ∧ j ≤ xs.length ∧ Hid (NumI xs small w.heap.size w wr u j)) (fun _ i0 _ => xs.length - (intOf i0).toNat)
  case atStart => exact ⟨0, rfl, by omega, ⟨fun i _ hi => by omega, World.ownsRow_nil _ _ _ _, Kp.refl _ _⟩⟩
  case round =>
    obtain ⟨j, rfl, hj, hr⟩ := hrel
    by_cases hlt : j < xs.length
    · obtain ⟨ao', cap', e, hc⟩ := (HX.out.old hr.out.kp).is
      injection e with e1 _ e3
      subst e1 e3
      obtain ⟨g, off, rfl, hcell⟩ := hc j _ (strs_get xs j hlt)
      clear hc
      obtain ⟨uo, ucap, rfl⟩ := own_shape hr.out.own
      obtain ⟨x, hx⟩ : ∃ x, xs[j] = x := ⟨_, rfl⟩
      have hxs : x.size ≤ 1000000 := HSZ.out x (by rw [← hx]; exact List.getElem_mem hlt)
      obtain ⟨⟨n, e⟩, hne⟩ : ∃ p, rdU (bl x) = p := ⟨_, rfl⟩
      have hRD := fun W => dReadUnit x W hxs
      simp only [hne] at hRD
      have HRD := Lib.hid hRD
      rw [hx] at hcell
      have HNn : Hid ((rdU (bl xs[j])).1 = n) := by show _ = _; rw [hx, hne]
      have hsz := hr.out.kp.size
      have hji : (j : Int) < xs.length := by omega
      by_cases he : e = 0
      · subst he
        by_cases hs : j < small
        · have hsi : (j : Int) < small := by omega
          by_cases hb : 4294967296 ≤ n
          · have hbi : (4294967296 : Int) ≤ n := by omega
            have HB := Lib.hid (hr.out.bad hlt (e := 5) (by rw [hx]; exact e1_over hne hs hb) (by decide))
            clear hx hne hRD hs hb
            go_wp2_with fail
            refine (HRD.out wr).mono ?_
            rintro e2 w2 ⟨rfl, d, rfl⟩
            go_wp2
            go_ret2
            exact ⟨hr.out.kp.drewN d, .inl ⟨by rw [HB.out]; decide, by rw [HB.out]; rfl⟩⟩
          · have hbd : decide ((4294967296 : Int) ≤ (n : Int)) = false := decide_eq_false (by omega)
            have HE0 : Hid (e1 small j (bl xs[j]) = 0) := by show _ = _; rw [hx]; exact e1_ok hne (fun h => hb h.2)
            clear hx hne hRD hs hb
            go_wp2_with fail
            refine (HRD.out wr).mono ?_
            rintro e2 w2 ⟨rfl, d, rfl⟩
            have hkd : Kp none' wr (wr.drewN d) := (Kp.refl _ _).drewN d
            go_wp2_with (at_builtin; refine wp_app1 tU64 (.tmp 35) (.tmp 37) rfl rfl w.heap.size ((own_kp hr.out.own hkd (fun _ _ x => x)).alloc _) [.int .u64 n] rfl rfl rfl (heap_new _ _) rfl (by omega) (by omega) (by simp; omega) ?_)
            intro g1 cap1 w1 hown1 hgrow
            have HK1 : Hid (Kp none' w w1) := ((hr.out.kp.then hkd (fun _ _ x => x)).alloc _).grown hgrow (fun b e => .inr (own_block hr.out.own e).1)
            have HN := Lib.hid (hr.out.next hlt HNn.out HE0.out hown1 HK1.out)
            clear hown1 hgrow hkd
            go_wp2
            go_roundw
            case rel => exact ⟨j + 1, by go_num, by omega, HN⟩
            case measure => simp [intOf]; omega
        · have hsi : ¬ (j : Int) < small := by omega
          have HE0 : Hid (e1 small j (bl xs[j]) = 0) := by show _ = _; rw [hx]; exact e1_ok hne (fun h => hs h.1)
          clear hx hne hRD hs
          go_wp2_with fail
          refine (HRD.out wr).mono ?_
          rintro e2 w2 ⟨rfl, d, rfl⟩
          have hkd : Kp none' wr (wr.drewN d) := (Kp.refl _ _).drewN d
          go_wp2_with (at_builtin; refine wp_app1 tU64 (.tmp 35) (.tmp 37) rfl rfl w.heap.size ((own_kp hr.out.own hkd (fun _ _ x => x)).alloc _) [.int .u64 n] rfl rfl rfl (heap_new _ _) rfl (by omega) (by omega) (by simp; omega) ?_)
          intro g1 cap1 w1 hown1 hgrow
          have HK1 : Hid (Kp none' w w1) := ((hr.out.kp.then hkd (fun _ _ x => x)).alloc _).grown hgrow (fun b e => .inr (own_block hr.out.own e).1)
          have HN := Lib.hid (hr.out.next hlt HNn.out HE0.out hown1 HK1.out)
          clear hown1 hgrow hkd
          go_wp2
          go_roundw
          case rel => exact ⟨j + 1, by go_num, by omega, HN⟩
          case measure => simp [intOf]; omega
      · have hb : (e != 0) = true := by simpa using he
        have HB := Lib.hid (hr.out.bad hlt (by rw [hx]; exact e1_err hne he) he)
        have HE := Lib.hid he
        clear hx hne hRD he
        go_wp2_with fail
        refine (HRD.out wr).mono ?_
        rintro e2 w2 ⟨rfl, d, rfl⟩
        go_wp2
        go_ret2
        exact ⟨hr.out.kp.drewN d, .inl ⟨by rw [HB.out]; exact HE.out, by rw [HB.out]; rfl⟩⟩
    · obtain rfl : j = xs.length := by omega
      have hd := hr.out.done
      have HD := Lib.hid hd
      clear hd
      go_wp2
      go_ret2
      exact ⟨hr.out.kp, .inr ⟨HD.out.1, _, rfl, HD.out.2⟩⟩
end Go.Proofs.YthgpmpmnihijnaaDoor
