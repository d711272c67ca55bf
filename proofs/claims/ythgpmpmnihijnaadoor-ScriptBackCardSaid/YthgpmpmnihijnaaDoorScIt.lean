/- strings.SplitSeq at a line feed: what it tells. -/
import Derived.Test.YthgpmpmnihijnaaDoorRangeO
import Derived.Test.YthgpmpmnihijnaaDoorSplitP
import Derived.Test.YthgpmpmnihijnaaDoorShelf
import Derived.Test.YthgpmpmnihijnaaDoorStr
import Derived.Test.YthgpmpmnihijnaaDoorOwn
namespace Go.Proofs.YthgpmpmnihijnaaDoor
set_option linter.unusedVariables false
set_option linter.unusedSimpArgs false
open Go.RowKit Go.Shelf
attribute [local go_sem] Oper.semAt_some
def szAt (w : World) (b : Nat) : Nat := match w.cell? ⟨b, 0, none⟩ with | some (.string r) => r.size | _ => 0
theorem szAt_of {w : World} {b : Nat} {r : ByteArray} (h : Blk w b [.string r] 9) : szAt w b = r.size := by unfold szAt; rw [h.cell 0 rfl]
/-- Between two rounds. -/
structure SI (J : List ByteArray → (Nat → Prop) → World → Prop) (s : ByteArray) (bsep bs b0 lp : Nat) (F0 : Nat → Prop) (W : World) (j : Nat) (F : Nat → Prop) (r : ByteArray) (wr : World) : Prop where
  hj : J (((parts 10 (bl s)).map tx).take j) F wr
  hsep : Blk wr bsep [.string ⟨#[10]⟩] 9
  hs : Blk wr bs [.string r] 9
  hz : Blk wr b0 [.int .i64 0] 3
  rest : parts 10 (bl r) = (parts 10 (bl s)).drop j
  size : r.size ≤ 1000000
  kp : Kp (fun b => (F0 b ∨ b = bs) ∨ b = lp) W wr
  fr : ∀ b, F b → F0 b ∨ W.heap.size ≤ b
theorem index_no (r : ByteArray) (h : (10 : UInt8) ∉ bl r) : Lib.indexByte r.data.toList 10 = -1 := by
  have := first_no 10 (bl r) h
  rwa [Lib.index_one] at this
theorem index_at (r : ByteArray) (h : (10 : UInt8) ∈ bl r) : ∃ i : Nat, Lib.indexByte r.data.toList 10 = i ∧ i < r.size ∧ bl r = bl (r.extract 0 i) ++ 10 :: bl (r.extract (i + 1) r.size) ∧ (10 : UInt8) ∉ bl (r.extract 0 i) := by
  obtain ⟨i, h1, h2, h3, h4⟩ := first_at 10 (bl r) h
  rw [Lib.index_one] at h1
  have e1 : bl (r.extract 0 i) = (bl r).take i := by rw [bl_cut]; simp
  have e2 : bl (r.extract (i + 1) r.size) = (bl r).drop (i + 1) := by
    rw [bl_cut, ← bl_len]
    exact List.take_of_length_le (by simp)
  exact ⟨i, h1, by rw [← bl_len]; exact h2, by rw [e1, e2]; exact h3, by rw [e1]; exact h4⟩
set_option maxRecDepth 100000 in
set_option maxHeartbeats 1000000 in
theorem sIter {w : World} {s : ByteArray} {bsep bs b0 : Nat} (h1 : Blk w bsep [.string ⟨#[10]⟩] 9) (h2 : Blk w bs [.string s] 9) (h3 : Blk w b0 [.int .i64 0] 3) (hs : s.size ≤ 1000000) (hn1 : bs ≠ bsep) (hn2 : bs ≠ b0) :
    TellsO Tryd.prog 36 (fun y => #[] ++ #[y] ++ #[.pointer (some ⟨bsep, 0, none⟩), .pointer (some ⟨bs, 0, none⟩), .pointer (some ⟨b0, 0, none⟩)]) (fun x : ByteArray => #[.string x]) ((parts 10 (bl s)).map tx)
      (fun b => b = bsep ∨ b = bs ∨ b = b0) (fun b => b = bs) w := by
  intro lp J Jx F0 W hkp hlp hF0 hH hJ hJx hY h0
  have k1 := h1.kp hkp id
  have k2 := h2.kp hkp id
  have k3 := h3.kp hkp id
  have l1 := k1.lt
  have l2 := k2.lt
  have l3 := k3.lt
  have c1 := k1.cell 0 rfl
  have c2 := k2.cell 0 rfl
  have c3 := k3.cell 0 rfl
  have H0 : Hid (SI J s bsep bs b0 lp F0 W 0 F0 s W) := ⟨by rw [List.take_zero]; exact h0, k1, k2, k3, rfl, hs, Kp.refl _ _, fun b hb => .inl hb⟩
  have HY := Lib.hid hY; have HJ := Lib.hid hJ; have HJx := Lib.hid hJx; have HH := Lib.hid hH; have HF0 := Lib.hid hF0
  clear hkp hJ hJx hY h0 hH hF0 h1 h2 h3 k1 k2 k3 hs
  refine callsIn_of_wp Tryd.func36 rfl trivial ?_ rfl
  simp only [Tryd.ntmps36, List.size_toArray, List.length_cons, List.length_nil, Nat.reduceAdd, Nat.reduceSub, Array.replicate_succ, Array.replicate_zero, List.push_toArray, List.append_toArray, List.nil_append, List.cons_append]
  gi_wp2_with fail
  gi_loopw [7, 8] (fun _ _ wr => ∃ (j : Nat) (F : Nat → Prop) (r : ByteArray), Hid (SI J s bsep bs b0 lp F0 W j F r wr)) (fun _ _ wr => szAt wr bs)
  case atStart => exact ⟨0, F0, s, H0⟩
  case round =>
    obtain ⟨j, F, r, hr⟩ := hrel
    have d1 := hr.out.hsep.cell 0 rfl
    have d2 := hr.out.hs.cell 0 rfl
    have d3 := hr.out.hz.cell 0 rfl
    have IX := Lib.hid (Tryd.strings_Index_one r 10 wr)
    by_cases hc : (10 : UInt8) ∈ bl r
    · obtain ⟨i, hi, hlt, he, hn⟩ := index_at r hc
      rw [hi] at IX
      obtain ⟨a, ha⟩ : ∃ a, r.extract 0 i = a := ⟨_, rfl⟩
      obtain ⟨b, hb⟩ : ∃ b, r.extract (i + 1) r.size = b := ⟨_, rfl⟩
      rw [ha, hb] at he
      rw [ha] at hn
      have hrs := hr.out.size
      have hii : (i : Int) < r.size := by omega
      have hp := hr.out.rest
      rw [he, parts_cons _ _ _ hn] at hp
      have hjl : j < (parts 10 (bl s)).length := by
        rcases Nat.lt_or_ge j (parts 10 (bl s)).length with h | h
        · exact h
        · rw [List.drop_eq_nil_of_le h] at hp; cases hp
      rw [List.drop_eq_getElem_cons hjl] at hp
      injection hp with hp1 hp2
      have hx : Hid ((parts 10 (bl s)).map tx = ((parts 10 (bl s)).map tx).take j ++ a :: ((parts 10 (bl s)).map tx).drop (j + 1)) := by
        have hj2 : j < ((parts 10 (bl s)).map tx).length := by rw [List.length_map]; exact hjl
        have e : ((parts 10 (bl s)).map tx)[j] = a := by rw [List.getElem_map, ← hp1, tx_bl]
        show _ = _
        rw [← e, List.getElem_cons_drop, List.take_append_drop]
      have hx2 : Hid (((parts 10 (bl s)).map tx).take (j + 1) = ((parts 10 (bl s)).map tx).take j ++ [a]) := by
        have hj2 : j < ((parts 10 (bl s)).map tx).length := by rw [List.length_map]; exact hjl
        have e : ((parts 10 (bl s)).map tx)[j] = a := by rw [List.getElem_map, ← hp1, tx_bl]
        show _ = _
        rw [List.take_succ_eq_append_getElem hj2, e]
      have HP := Lib.hid hp2
      have hbs : b.size < r.size := by rw [← hb]; simp; omega
      obtain ⟨f1, t1, a1, b1, hy1, hR1⟩ := HY.out _ _ _ _ wr hx.out hr.out.hj
      have HR := Lib.hid hR1
      have H8 := Lib.hid (show ((i : Int) + 0) = i by omega)
      have hi1 : (i : Int) + 1 ≤ r.size := by omega
      clear hR1 hp1 hp2 he hn hc hi
      gi_wp2_with fail
      refine ⟨trivial, rfl, (callsIn_wide.2 IX.out).mono ?_⟩
      rintro e w2 ⟨rfl, rfl⟩
      gi_wp2_with fail
      refine ⟨rfl, (HR.out).mono ?_⟩
      rintro e w4 ⟨F', kF, hFF, ⟨rfl, hj4⟩ | ⟨rfl, hj4⟩⟩
      · have ho : ∀ x, x = bsep ∨ x = bs ∨ x = b0 → ¬ (F x ∨ x = lp) := fun x hx h => by
          have h2 := HH.out x hx
          rcases h with h | h
          · rcases hr.out.fr x h with h | h
            · exact h2.1 h
            · rcases hx with rfl | rfl | rfl <;> omega
          · exact h2.2 h
        have e1 := hr.out.hsep.kp kF (ho _ (.inl rfl))
        have e2 := hr.out.hs.kp kF (ho _ (.inr (.inl rfl)))
        have e3 := hr.out.hz.kp kF (ho _ (.inr (.inr rfl)))
        have HE1 := Lib.hid e1; have HE2 := Lib.hid e2; have HE3 := Lib.hid e3
        have hkb : Kp (fun x => x = bs) w4 (w4.setCell ⟨bs, 0, none⟩ (.string b)) := (Kp.refl (fun x => x = bs) w4).set (p := ⟨bs, 0, none⟩) (.inl rfl) _
        have HN : Hid (SI J s bsep bs b0 lp F0 W (j + 1) F' b (w4.setCell ⟨bs, 0, none⟩ (.string b))) := by
          refine ⟨by rw [hx2.out]; exact HJ.out _ _ _ _ hj4 hkb, e1.setNe (a := ⟨bs, 0, none⟩) (fun e => hn1 e.symm) _, e2.set 0 _, e3.setNe (a := ⟨bs, 0, none⟩) (fun e => hn2 e.symm) _, HP.out, by omega, ?_, fun x hx => ?_⟩
          · refine (hr.out.kp.then kF (fun i hi h => ?_)).then hkb (fun i hi h => .inl (.inr h))
            rcases h with h | h
            · rcases hr.out.fr i h with h | h
              · exact .inl (.inl h)
              · omega
            · exact .inr h
          · rcases hFF x hx with h | h
            · exact hr.out.fr x h
            · have := hr.out.kp.size
              exact .inr (by omega)
        have q1 := e1.cell 0 rfl
        have q2 := e2.cell 0 rfl
        have q3 := e3.cell 0 rfl
        have z2 := e2.fz 0
        have HSZ := Lib.hid (szAt_of hr.out.hs)
        have HSZ2 := Lib.hid (szAt_of HN.out.hs)
        clear hj4 kF hFF HR hy1 e1 e2 e3 hkb ho
        gi_wp2
        go_roundw
        case rel => exact ⟨j + 1, F', b, HN⟩
        case measure => rw [HSZ.out, HSZ2.out]; exact hbs
      · have HN : Hid (Jx (((parts 10 (bl s)).map tx).take j ++ [a]) F' w4 ∧ Kp (fun b => (F0 b ∨ b = bs) ∨ b = lp) W w4) := by
          refine ⟨hj4, hr.out.kp.then kF (fun i hi h => ?_)⟩
          rcases h with h | h
          · rcases hr.out.fr i h with h | h
            · exact .inl (.inl h)
            · omega
          · exact .inr h
        clear hj4 kF hFF HR hy1
        gi_wp2
        (try simp only [Exit.inBlock, Exit.then]); refine bodyPost_ret (results_none rfl _ _ _) rfl ?_
        exact ⟨⟨_, rfl⟩, HN.out.2, F', .inr ⟨_, HN.out.1⟩⟩
    · rw [index_no r hc] at IX
      have hp := hr.out.rest
      rw [parts_one _ _ hc] at hp
      have hjl : j < (parts 10 (bl s)).length := by
        rcases Nat.lt_or_ge j (parts 10 (bl s)).length with h | h
        · exact h
        · rw [List.drop_eq_nil_of_le h] at hp; cases hp
      rw [List.drop_eq_getElem_cons hjl] at hp
      injection hp with hp1 hp2
      have hx : Hid ((parts 10 (bl s)).map tx = ((parts 10 (bl s)).map tx).take j ++ [r]) := by
        have hj2 : j < ((parts 10 (bl s)).map tx).length := by rw [List.length_map]; exact hjl
        have e : ((parts 10 (bl s)).map tx)[j] = r := by rw [List.getElem_map, ← hp1, tx_bl]
        have e2 : ((parts 10 (bl s)).map tx).drop (j + 1) = [] := by rw [← List.map_drop, ← hp2]; rfl
        show _ = _
        rw [← e, ← e2, List.getElem_cons_drop, List.take_append_drop]
      obtain ⟨f1, t1, a1, b1, hy1, hR1⟩ := HY.out _ _ _ _ wr hx.out hr.out.hj
      have HR := Lib.hid hR1
      clear hR1 hp1 hp2 hc
      gi_wp2_with fail
      refine ⟨trivial, rfl, (callsIn_wide.2 IX.out).mono ?_⟩
      rintro e w2 ⟨rfl, rfl⟩
      gi_wp2_with fail
      refine ⟨rfl, (HR.out).mono ?_⟩
      rintro e w4 ⟨F', kF, hFF, ⟨rfl, hj4⟩ | ⟨rfl, hj4⟩⟩
      · have HN : Hid (J ((parts 10 (bl s)).map tx) F' w4 ∧ Kp (fun b => (F0 b ∨ b = bs) ∨ b = lp) W w4) := by
          refine ⟨by rw [hx.out]; exact hj4, hr.out.kp.then kF (fun i hi h => ?_)⟩
          rcases h with h | h
          · rcases hr.out.fr i h with h | h
            · exact .inl (.inl h)
            · omega
          · exact .inr h
        clear hj4 kF hFF HR hy1
        gi_wp2
        go_end0
        exact ⟨⟨_, rfl⟩, HN.out.2, F', .inl HN.out.1⟩
      · have HN : Hid (Jx (((parts 10 (bl s)).map tx).take j ++ [r]) F' w4 ∧ Kp (fun b => (F0 b ∨ b = bs) ∨ b = lp) W w4) := by
          refine ⟨hj4, hr.out.kp.then kF (fun i hi h => ?_)⟩
          rcases h with h | h
          · rcases hr.out.fr i h with h | h
            · exact .inl (.inl h)
            · omega
          · exact .inr h
        clear hj4 kF hFF HR hy1
        gi_wp2
        go_end0
        exact ⟨⟨_, rfl⟩, HN.out.2, F', .inr ⟨_, HN.out.1⟩⟩
end Go.Proofs.YthgpmpmnihijnaaDoor
