/- The document's answer of layer 15, walked: Set, Drop. -/
import Derived.Test.YthnlggecjdifnaaFlR
import Derived.Deep.RegionHeld3
namespace Go.Proofs.Ythnlggecjdifnaa
set_option linter.unusedVariables false
set_option linter.unusedSimpArgs false
open Go.RowKit flowInt

theorem step_appN {P : Program} {t e : TypeId} {z : Value} {size bytes : Nat} (T : SlT P t e z size bytes) {ops : Array Oper} {o : Oper} {a : Act} {w : World} {K : Act → World → Prop} {Q : Exit → Act → World → Prop} {E : Prop} (s x : Operand)
    (hgd : o.guard = none) (ho : o.op = .call { callee := .builtin .append, args := #[s, x], argTypes := #[t, t] }) (base : Nat) {v : Value} {n : Nat} {xs : List Value} (hown : w.ownsRow base e size v n xs)
    {b off m c : Nat} (news : List Value) (hs : a.eval s = v) (hx : a.eval x = .slice (some ⟨b, off, none⟩) m c) (hl : news.length = m * size) (hnews : ∀ j u, news[j]? = some u → w.cell? ⟨b, off + j, none⟩ = some u) (h1 : news.all (·.oneCell') = true)
    (hbytes : (n + m) * bytes ≤ 140737488355328) (h63 : n + m ≤ 9223372036854775807) (hbase : base ≤ w.heap.size)
    (h : ∀ v' w', w'.ownsRow base e size v' (n + m) (xs ++ news) → w.grownBy w' v.ownBlock → K (a.put o.dst v') w') :
    if Region.wanted o (yielded ops a.tmps) = true then Oper.wp P o a w K Q else E := by
  have hw : Region.wanted o (yielded ops a.tmps) = true := by simp [Region.wanted, hgd]
  rw [if_pos hw]
  obtain ⟨i, hi, hz0, hz1, hz2⟩ := info_parts T.info
  refine wp_append_own w s x t ho base e i z size bytes T.ht hi hz0 hz1 hz2 T.hz T.pos v n xs hs hown ⟨b, off, none⟩ m c news hx hl ?_ (by simpa using h1) (by unfold maxLen; omega) hbytes hbase (fun v' w' a1 a2 _ => h v' w' a1 a2)
  intro j u hu
  have e : (⟨b, off, none⟩ : Addr).add j = ⟨b, off + j, none⟩ := by unfold Addr.add; split <;> simp_all
  rw [e]; exact hnews j u hu
theorem nod_ne {l : List (Nat × Int)} (hn : (l.map (·.1)).Nodup) {k j : Nat} {x y : Nat × Int} (hk : l[k]? = some x) (hj : l[j]? = some y) (hjk : j ≠ k) : y.1 ≠ x.1 := by
  intro e
  obtain ⟨hk1, hk2⟩ := List.getElem?_eq_some_iff.1 hk
  obtain ⟨hj1, hj2⟩ := List.getElem?_eq_some_iff.1 hj
  have hp := List.pairwise_iff_getElem.1 hn
  rcases Nat.lt_or_gt_of_ne hjk with h | h
  · exact hp j k (by simpa using hj1) (by simpa using hk1) h (by simp [hk2, hj2, e])
  · exact hp k j (by simpa using hk1) (by simpa using hj1) h (by simp [hk2, hj2, e])
theorem set_setF {l : List (Nat × Int)} (hn : (l.map (·.1)).Nodup) {k id : Nat} {y : Int} (hk : l[k]? = some (id, y)) (x : Int) : l.set k (id, x) = setF id x l := by
  have hkl := (List.getElem?_eq_some_iff.1 hk).1
  apply List.ext_getElem?
  intro j
  unfold setF
  rw [List.getElem?_map]
  by_cases hj : j = k
  · subst hj
    rw [List.getElem?_set_self hkl, hk]; simp
  · rw [List.getElem?_set_ne (fun e => hj e.symm)]
    cases he : l[j]? with
    | none => rfl
    | some p =>
      have := nod_ne hn hk he hj
      simp only at this
      simp [this]
theorem cut_delF {l : List (Nat × Int)} (hn : (l.map (·.1)).Nodup) {k id : Nat} {y : Int} (hk : l[k]? = some (id, y)) : delF id l = l.take k ++ l.drop (k + 1) := by
  have hkl := (List.getElem?_eq_some_iff.1 hk).1
  have hke : l[k] = (id, y) := (List.getElem?_eq_some_iff.1 hk).2
  have e : l = l.take k ++ (id, y) :: l.drop (k + 1) := by
    have e2 : l = l.take k ++ l[k] :: l.drop (k + 1) := by rw [List.getElem_cons_drop, List.take_append_drop]
    rw [hke] at e2; exact e2
  have hn2 := hn
  rw [e, List.map_append, List.map_cons] at hn2
  obtain ⟨h1, h2, h3⟩ := List.nodup_append.1 hn2
  obtain ⟨h4, _⟩ := List.nodup_cons.1 h2
  unfold delF
  conv => lhs; rw [e]
  rw [List.filter_append, List.filter_cons_of_neg (by simp)]
  congr 1
  · rw [List.filter_eq_self]
    intro p hp
    have := h3 p.1 (List.mem_map.2 ⟨p, hp, rfl⟩) id (by simp)
    simpa using this
  · rw [List.filter_eq_self]
    intro p hp
    have : p.1 ≠ id := fun e => h4 (by show id ∈ _; rw [← e]; exact List.mem_map.2 ⟨p, hp, rfl⟩)
    simpa using this
theorem take_flatE (l : List (Nat × Int)) (k j : Nat) (u : Value) (h : ((l.take k).flatMap enE)[j]? = some u) : (l.flatMap enE)[j]? = some u := by
  have e : l.flatMap enE = (l.take k).flatMap enE ++ (l.drop k).flatMap enE := by rw [← List.flatMap_append, List.take_append_drop]
  rw [e, List.getElem?_append_left (List.getElem?_eq_some_iff.1 h).1]; exact h
theorem drop_flatE (l : List (Nat × Int)) (k j : Nat) (hk : k ≤ l.length) (u : Value) (h : ((l.drop k).flatMap enE)[j]? = some u) : (l.flatMap enE)[k * 2 + j]? = some u := by
  have e : l.flatMap enE = (l.take k).flatMap enE ++ (l.drop k).flatMap enE := by rw [← List.flatMap_append, List.take_append_drop]
  have hl : ((l.take k).flatMap enE).length = k * 2 := by rw [flat_len enE 2 enE_len]; simp; omega
  rw [e, List.getElem?_append_right (by omega), hl, Nat.add_sub_cancel_left]; exact h
set_option maxRecDepth 100000 in
set_option maxHeartbeats 4000000 in
theorem rSetNone (w : World) (B0 : Nat) (v : Value) (l : List (Nat × Int)) (h : Rr w B0 v l) (id : Nat) (x : Int) (hl : l.length ≤ 5000) (hid : id ∉ l.map (·.1)) :
    Calls Try.prog 16 #[v, .int .u32 id, .int .i64 x] w fun e w' => e = .returned (.tuple #[v, .bool false]) ∧ w = w' := by
  have hf := rFindE w B0 v l h id hl
  rw [posE_no hid] at hf
  obtain ⟨ao, cap, rfl⟩ := own_shape h
  have HF := Lib.hid hf
  clear hf h hid
  go_enter Try.func16, Try.ntmps16
  go_wp2_with (go_at_call 9; refine HF.out.mono ?_; rintro e w' ⟨rfl, rfl⟩)
  go_ret2
  exact ⟨rfl, rfl⟩
set_option maxRecDepth 100000 in
set_option maxHeartbeats 4000000 in
theorem rDropNone (w : World) (B0 : Nat) (v : Value) (l : List (Nat × Int)) (h : Rr w B0 v l) (id : Nat) (hl : l.length ≤ 5000) (hid : id ∉ l.map (·.1)) :
    Calls Try.prog 18 #[v, .int .u32 id] w fun e w' => e = .returned (.tuple #[v, .int .i64 0, .bool false]) ∧ w = w' := by
  have hf := rFindE w B0 v l h id hl
  rw [posE_no hid] at hf
  obtain ⟨ao, cap, rfl⟩ := own_shape h
  have HF := Lib.hid hf
  clear hf h hid
  go_enter Try.func18, Try.ntmps18
  go_wp2_with (go_at_call 9; refine HF.out.mono ?_; rintro e w' ⟨rfl, rfl⟩)
  go_ret3
  exact ⟨rfl, rfl⟩
set_option maxRecDepth 100000 in
set_option maxHeartbeats 4000000 in
theorem rSet (w : World) (B0 : Nat) (v : Value) (l : List (Nat × Int)) (h : Rr w B0 v l) (id : Nat) (x : Int) (hl : l.length ≤ 5000) (hn : (l.map (·.1)).Nodup) (hid : id ∈ l.map (·.1)) :
    Calls Try.prog 16 #[v, .int .u32 id, .int .i64 x] w fun e w' => ∃ v', e = .returned (.tuple #[v', .bool true]) ∧ Rr w' w.heap.size v' (setF id x l) ∧ Kp none' w w' := by
  have hf := rFindE w B0 v l h id hl
  obtain ⟨k, y, hk, hky⟩ := posE_get hid
  rw [hk] at hf
  have hkl := (List.getElem?_eq_some_iff.1 hky).1
  obtain ⟨g, cap, rfl, _⟩ := own_shape1 h (by omega)
  have hcells : ∀ j u, (l.flatMap enE)[j]? = some u → w.cell? ⟨g, 0 + j, none⟩ = some u := fun j u hu => by rw [Nat.zero_add]; exact own_cell h j hu
  have hset := set_setF hn hky x
  have hfs : (l.set k (id, x)).flatMap enE = (l.flatMap enE).set (k * 2 + 1) (.int .i64 x) := flat_set1 enE 2 enE_len l k (id, x) (id, y) 1 _ (by omega) hky rfl
  have hlf : (l.flatMap enE).length = l.length * 2 := flat_len enE 2 enE_len l
  have hck : (l.flatMap enE)[k * 2 + 1]? = some (.int .i64 y) := by rw [flat_get enE 2 enE_len _ _ _ (by omega), hky]; rfl
  have HF := Lib.hid hf; have HC := Lib.hid hcells; have HS := Lib.hid hset; have HFS := Lib.hid hfs; have HLF := Lib.hid hlf; have HCK := Lib.hid hck
  have hkl2 : (k : Int) < (l.length : Int) := by omega
  clear hf h hid hcells hset hfs hlf hck hky hk
  go_enter Try.func16, Try.ntmps16
  go_wp2_with (first | (go_at_call 9; refine HF.out.mono ?_; rintro e w' ⟨rfl, rfl⟩) | (at_builtin; refine wp_appN tEs (.tmp 16) (.tmp 17) rfl rfl w.heap.size (World.ownsRow_nil _ _ _ _) (l.flatMap enE) rfl rfl HLF.out HC.out (enE_one l) (by omega) (by omega) (Nat.le_refl _) ?_))
  intro v1 w1 hown1 hg1
  replace hown1 : w1.ownsRow w.heap.size 39 2 v1 l.length (l.flatMap enE) := by simpa using hown1
  have HK1 : Hid (Kp none' w w1) := (Kp.refl _ _).grown hg1 (fun b e => by cases e)
  obtain ⟨g1, cap1, rfl, hgb⟩ := own_shape1 hown1 (by omega)
  have d1 := own_cell hown1 (k * 2 + 1) HCK.out
  have z1 := own_fz hown1 (k * 2 + 1)
  have hst := own_set hown1 (k * 2 + 1) (.int .i64 x)
  rw [← HFS.out, HS.out] at hst
  have HST := Lib.hid hst
  clear hown1 hg1 hst
  go_wp2
  go_ret2
  refine ⟨_, rfl, ?_, HK1.out.set (p := ⟨g1, k * 2 + 1, none⟩) (.inr hgb) _⟩
  unfold Rr
  have : (setF id x l).length = l.length := by unfold setF; rw [List.length_map]
  rw [this]
  exact HST.out
set_option maxRecDepth 100000 in
set_option maxHeartbeats 8000000 in
theorem rDrop (w : World) (B0 : Nat) (v : Value) (l : List (Nat × Int)) (h : Rr w B0 v l) (id : Nat) (y : Int) (hl : l.length ≤ 5000) (hn : (l.map (·.1)).Nodup) (hid : (id, y) ∈ l) :
    Calls Try.prog 18 #[v, .int .u32 id] w fun e w' => ∃ v', e = .returned (.tuple #[v', .int .i64 y, .bool true]) ∧ Rr w' w.heap.size v' (delF id l) ∧ Kp none' w w' := by
  have hf := rFindE w B0 v l h id hl
  obtain ⟨k, y', hk, hky⟩ := posE_get (l := l) (x := id) (List.mem_map.2 ⟨_, hid, rfl⟩)
  obtain rfl : y' = y := by
    obtain ⟨j, hj⟩ := List.mem_iff_getElem?.1 hid
    by_cases e : j = k
    · subst e; rw [hky] at hj; simpa using hj
    · have hne := nod_ne hn hky hj e; exact (hne rfl).elim
  rw [hk] at hf
  have hkl := (List.getElem?_eq_some_iff.1 hky).1
  obtain ⟨g, cap, rfl, _⟩ := own_shape1 h (by omega)
  have hcap : l.length ≤ cap := by
    rcases h.2 with ⟨e, _⟩ | ⟨g', cap', cur, hv, _, _, hle, _⟩
    · cases e
    · cases hv; omega
  have hcells := fun i u hu => own_cell h i (u := u) hu
  have hdel := cut_delF hn hky
  have hA1 : ((l.take k).flatMap enE).length = k * 2 := by rw [flat_len enE 2 enE_len]; simp; omega
  have hA2 : ∀ j u, ((l.take k).flatMap enE)[j]? = some u → w.cell? ⟨g, 0 + j, none⟩ = some u := fun j u hu => by rw [Nat.zero_add]; exact hcells j u (take_flatE _ _ _ _ hu)
  have hD1 : ((l.drop (k + 1)).flatMap enE).length = (l.length - (k + 1)) * 2 := by rw [flat_len enE 2 enE_len]; simp
  have hD2 : ∀ j u, ((l.drop (k + 1)).flatMap enE)[j]? = some u → w.cell? ⟨g, (k + 1) * 2 + j, none⟩ = some u := fun j u hu => hcells _ u (drop_flatE _ _ _ (by omega) _ hu)
  have hck : w.cell? ⟨g, k * 2 + 1, none⟩ = some (.int .i64 y') := hcells _ _ (by rw [flat_get enE 2 enE_len _ _ _ (by omega), hky]; rfl)
  have HF := Lib.hid hf; have HDL := Lib.hid hdel; have HA1 := Lib.hid hA1; have HA2 := Lib.hid hA2; have HD1 := Lib.hid hD1; have HD2 := Lib.hid hD2; have HCK := Lib.hid hck
  have HRW : Hid (Rr w B0 (.slice (some ⟨g, 0, none⟩) l.length cap) l) := h
  have hkl2 : (k : Int) < (l.length : Int) := by omega
  have hkl3 : (k : Int) + 1 ≤ (l.length : Int) := by omega
  have hk0 : (0 : Int) ≤ (k : Int) + 1 := by omega
  have hk4 : (l.length : Int) ≤ (cap : Int) := by omega
  have hk5 : ((k : Int) + 1).toNat = k + 1 := by omega
  have hk6 : IntKind.i64.wrap ((k : Int) + 1) = (k : Int) + 1 := by rw [IntKind.wrap_i64]; omega
  clear hf h hid hcells hdel hA1 hA2 hD1 hD2 hky hk hck
  go_enter Try.func18, Try.ntmps18
  go_wp2_with (first | (go_at_call 9; refine HF.out.mono ?_; rintro e w' ⟨rfl, rfl⟩) | (at_builtin; refine wp_appN tEs (.tmp 15) (.tmp 18) rfl rfl w.heap.size (World.ownsRow_nil _ _ _ _) ((l.take k).flatMap enE) rfl rfl HA1.out HA2.out (enE_one _) (by omega) (by omega) (Nat.le_refl _) ?_))
  intro v1 w1 hown1 hg1
  replace hown1 : w1.ownsRow w.heap.size 39 2 v1 k ((l.take k).flatMap enE) := by simpa using hown1
  have hk1 : Kp none' w w1 := (Kp.refl _ _).grown hg1 (fun b e => by cases e)
  obtain ⟨lo, lcap, rfl⟩ := own_shape hown1
  have hw1 := hk1.size
  have d1 := hk1.cell HCK.out (fun x => x)
  have HD3 : Hid (∀ j u, ((l.drop (k + 1)).flatMap enE)[j]? = some u → w1.cell? ⟨g, (k + 1) * 2 + j, none⟩ = some u) := fun j u hu => hk1.cell (HD2.out j u hu) (fun x => x)
  have HO1 := Lib.hid hown1
  have HK1 := Lib.hid hk1
  have HNE : Hid (some g ≠ (Value.slice lo k lcap).ownBlock) := fun e => by
    have h1 := (own_block hown1 e.symm).1
    have h2 := (own_block HRW.out (b := g) rfl).2
    omega
  clear hown1 hk1 hg1 HA1 HA2 HD2
  by_cases hce : cap = k + 1
  · have hlen : l.length = k + 1 := by omega
    have hdr : l.drop (k + 1) = [] := List.drop_of_length_le (by omega)
    rw [hdr, List.append_nil] at HDL
    have HLN := Lib.hid hlen
    clear hdr HD1 HD3 hlen
    subst hce
    go_wp2_with fail
    go_region_held3 (fun w' => w'.cell? ⟨g, k * 2 + 1, none⟩ = some (.int .i64 y'))
      (first | go_keep | exact hgrow.cell d1 HNE.out)
      ((refine step_appN tEs (.tmp 20) (.tmp 24) (by rfl) (by rfl) w.heap.size (v := .slice lo k lcap) (HO1.out.drew) [] (by rfl) (by rfl) (by simp <;> omega) (fun j u hu => by cases hu) rfl (by omega) (by omega) hw1 ?_; intro v2 w2 hown hgrow))
    have hK2 : Kp none' w w2 := (HK1.out.drew).grown hgrow (fun b hb => .inr (own_block HO1.out hb).1)
    have HR : Hid (Rr w2 w.heap.size v2 (delF id l)) := by
      show World.ownsRow _ _ _ _ _ _ _
      rw [HDL.out]
      have e : (l.take k).length = k := by simp; omega
      rw [e]
      simpa using hown
    have HK2 := Lib.hid hK2
    clear hown hgrow hK2
    go_wp2_with fail
    go_ret3
    exact ⟨_, rfl, HR.out, HK2.out⟩
  · have hcl : k + 1 < cap := by omega
    go_wp2_with fail
    go_region_held3 (fun w' => w'.cell? ⟨g, k * 2 + 1, none⟩ = some (.int .i64 y'))
      (first | go_keep | exact hgrow.cell d1 HNE.out)
      ((refine step_appN tEs (.tmp 20) (.tmp 24) (by rfl) (by rfl) w.heap.size (v := .slice lo k lcap) (HO1.out.drew) ((l.drop (k + 1)).flatMap enE) (by rfl) (by rfl) HD1.out HD3.out (enE_one _) (by omega) (by omega) hw1 ?_; intro v2 w2 hown hgrow))
    have hK2 : Kp none' w w2 := (HK1.out.drew).grown hgrow (fun b hb => .inr (own_block HO1.out hb).1)
    have HR : Hid (Rr w2 w.heap.size v2 (delF id l)) := by
      show World.ownsRow _ _ _ _ _ _ _
      rw [HDL.out, List.flatMap_append]
      have e : (l.take k ++ l.drop (k + 1)).length = k + (l.length - (k + 1)) := by simp; omega
      rw [e]
      exact hown
    have HK2 := Lib.hid hK2
    clear hown hgrow hK2
    go_wp2_with fail
    go_ret3
    exact ⟨_, rfl, HR.out, HK2.out⟩
end Go.Proofs.Ythnlggecjdifnaa
