/- slices.Compact of a rising row of numbers: each of them once. -/
import Derived.Test.YtfckgddodjmbdaaGreatDoorMDeviceNobodyF25
import Derived.Test.YtfckgddodjmbdaaGreatDoorShelfRu
import Derived.Test.YtfckgddodjmbdaaGreatDoorMDeviceNobodyF24
namespace Go.Proofs.YtfckgddodjmbdaaGreatDoor
set_option linter.unusedVariables false
set_option linter.unusedSimpArgs false
open Go.RowKit Go.Sort Go.Shelf Go.Lib
abbrev eUr (x : Nat) : Value := .int .u16 x
theorem compact_pre (d : Array Nat) (hup : ∀ i j, i ≤ j → j < d.size → d[i]! ≤ d[j]!) (m : Nat) (hm : m ≤ d.size) : (compactUpTo d m).Pairwise (· < ·) ∧ ∀ x, x ∈ compactUpTo d m ↔ ∃ j, j < m ∧ d[j]! = x := by
  induction m with
  | zero => exact ⟨by simp [compactUpTo], fun x => by simp [compactUpTo]⟩
  | succ m ih =>
    obtain ⟨h1, h2⟩ := ih (by omega)
    rw [compactUpTo_succ]
    by_cases hk : keeps d m = true
    · rw [if_pos hk]
      refine ⟨?_, fun x => ?_⟩
      · rw [List.pairwise_append]
        refine ⟨h1, by simp, fun a ha b hb => ?_⟩
        rw [List.mem_singleton] at hb
        subst hb
        obtain ⟨j, hj, rfl⟩ := (h2 a).1 ha
        have l1 := hup j (m - 1) (by omega) (by omega)
        have l2 := hup (m - 1) m (by omega) (by omega)
        unfold keeps at hk
        rw [decide_eq_true_eq] at hk
        rcases hk with hk | hk
        · omega
        · omega
      · rw [List.mem_append, h2, List.mem_singleton]
        constructor
        · rintro (⟨j, hj, e⟩ | rfl)
          · exact ⟨j, by omega, e⟩
          · exact ⟨m, by omega, rfl⟩
        · rintro ⟨j, hj, e⟩
          rcases Nat.lt_or_ge j m with h | h
          · exact .inl ⟨j, h, e⟩
          · have : j = m := by omega
            subst this; exact .inr e.symm
    · rw [if_neg hk, List.append_nil]
      refine ⟨h1, fun x => ?_⟩
      rw [h2]
      constructor
      · rintro ⟨j, hj, e⟩; exact ⟨j, by omega, e⟩
      · rintro ⟨j, hj, e⟩
        rcases Nat.lt_or_ge j m with h | h
        · exact ⟨j, h, e⟩
        · have : j = m := by omega
          subst this
          unfold keeps at hk
          simp only [decide_eq_true_eq] at hk
          have hk1 : j ≠ 0 := fun h => hk (.inl h)
          have hk2 : d[j]! = d[j - 1]! := Classical.byContradiction fun h => hk (.inr h)
          exact ⟨j - 1, by omega, by rw [← hk2]; exact e⟩
theorem compact_len (d : Array Nat) (m : Nat) : (compactUpTo d m).length ≤ m := by
  unfold compactUpTo
  rw [List.length_map]
  exact Nat.le_trans (List.length_filter_le _ _) (by simp)
theorem eqU : EqlAt Tryz.prog 54 eUr (fun x y => decide (x = y)) := ⟨fun x y w => by
  rw [(EqlAt.int Tryz.prog 54 .u16).1 (x : Int) (y : Int) w]
  by_cases h : x = y
  · subst h; simp
  · have : (x : Int) ≠ y := by omega
    simp [h, this], fun op a b x y w => GuardAt.int Tryz.prog 54 .u16 op a b x y w⟩
theorem neU : NeqAt Tryz.prog 54 eUr (fun x y => decide (x = y)) := ⟨fun x y w => by
  rw [(NeqAt.int Tryz.prog 54 .u16).1 (x : Int) (y : Int) w]
  by_cases h : x = y
  · subst h; simp
  · have : (x : Int) ≠ y := by omega
    simp [h, this], fun op a b x y w => GuardAt.int Tryz.prog 54 .u16 op a b x y w⟩
theorem compactRow (w : World) (base : Nat) (v : Value) (ys : List Nat) (own : w.ownsRow base 54 1 v ys.length (ys.map eUr)) (hne : ys ≠ []) (hup : ys.Pairwise (· ≤ ·)) :
    Calls Tryz.prog 121 #[v] w fun e w' => ∃ (ao : Option Addr) (cap : Nat) (zs : List Nat), e = .returned (.slice ao zs.length cap) ∧ zs.Pairwise (· < ·) ∧ (∀ x, x ∈ zs ↔ x ∈ ys) ∧ zs.length ≤ ys.length ∧ Sl w' (.slice ao zs.length cap) zs.length 1 (zs.flatMap fun x => [eUr x]) ∧ Kp (fun b => v.ownBlock = some b) w w' := by
  rcases own.2 with ⟨rfl, hn⟩ | ⟨g, cap, cur, rfl, hg, hb, h1, h2, h3, h4⟩
  · exact absurd (List.eq_nil_of_length_eq_zero hn) hne
  · rw [Nat.mul_one] at h3 h4
    have hH : Holds eUr w g 0 ys.toArray := sortUint16.holdsRow hb h4
    have hcap : ys.toArray.size ≤ cap := by simpa using h1
    have hsz : ys.toArray.size ≤ 9223372036854775807 := by unfold maxLen at h2; simp; omega
    have hup' : ∀ i j, i ≤ j → j < ys.toArray.size → ys.toArray[i]! ≤ ys.toArray[j]! := fun i j hij hj => by
      have hj' : j < ys.length := by simpa using hj
      have hi' : i < ys.length := by omega
      rw [getElem!_pos ys.toArray i (by simpa using hi'), getElem!_pos ys.toArray j hj]
      simp only [List.getElem_toArray]
      rcases Nat.lt_or_ge i j with h | h
      · exact List.pairwise_iff_getElem.1 hup i j hi' hj' h
      · have : i = j := by omega
        subst this; exact Nat.le_refl _
    obtain ⟨p1, p2⟩ := compact_pre ys.toArray hup' ys.toArray.size (Nat.le_refl _)
    have hl := compact_len ys.toArray ys.toArray.size
    have hmem : ∀ x, x ∈ compactUpTo ys.toArray ys.toArray.size ↔ x ∈ ys := fun x => by
      rw [p2]
      constructor
      · rintro ⟨j, hj, rfl⟩
        rw [getElem!_pos ys.toArray j hj]
        simp
      · intro hx
        obtain ⟨j, hj, rfl⟩ := List.getElem_of_mem hx
        refine ⟨j, by simpa using hj, ?_⟩
        rw [getElem!_pos ys.toArray j (by simpa using hj)]
        simp
    have hC := AnyE.slices_Compact Tryz.compactU eUr (fun _ => rfl) eqU neU 0 (fun w => by kernel_rfl) g 0 cap ys.toArray w hH hsz hcap
    have e : ys.toArray.size = ys.length := by simp
    have hlen := p1
    rw [e] at hC hl
    refine Calls.mono hC ?_
    rintro e' w' ⟨rfl, q, hw⟩
    refine ⟨_, cap, compactUpTo ys.toArray ys.length, rfl, by rw [← e]; exact p1, by rw [← e]; exact hmem, hl, ?_, ?_⟩
    · have hz : ∀ l : List Nat, l.flatMap (fun x => [eUr x]) = l.map eUr := fun l => by induction l <;> simp_all
      refine ⟨by rw [hz]; simp, by unfold maxLen at h2; omega, _, cap, rfl, fun i u hu => ⟨g, 0, rfl, ?_⟩⟩
      rw [hz] at hu
      have hs : (compactUpTo ys.toArray ys.length ++ List.replicate (ys.length - (compactUpTo ys.toArray ys.length).length) 0).toArray.size = ys.toArray.size := by simp; omega
      have hh := (holds_putRow eUr (Sort.ahead w q) g 0 ys.toArray _ (holds_ahead eUr w q g 0 ys.toArray hH) hs)
      have hi : i < (compactUpTo ys.toArray ys.length).length := by have := (List.getElem?_eq_some_iff.1 hu).1; simpa using this
      have := (hh i (by rw [hs]; simp; omega)).1
      rw [hw, this]
      have e2 : u = eUr (compactUpTo ys.toArray ys.length)[i] := by
        rw [List.getElem?_map, List.getElem?_eq_getElem hi] at hu
        exact (Option.some.inj hu).symm
      rw [e2, getElem!_pos _ i (by rw [hs]; simp; omega)]
      simp only [List.getElem_toArray]
      rw [List.getElem_append_left hi]
    · rw [hw]
      exact (sortUint16.kp_putRow w g 0 q _).mono (fun b _ h => by subst h; rfl)
end Go.Proofs.YtfckgddodjmbdaaGreatDoor

namespace Go.Proofs.YtfckgddodjmbdaaGreatDoor
set_option linter.unusedVariables false
set_option linter.unusedSimpArgs false
open Go.RowKit
def enRun (p : Nat × Nat) : List Value := [.int .u16 p.1, .int .u64 p.2]
theorem enRun_len (p : Nat × Nat) : (enRun p).length = 2 := rfl
theorem tU16 : SlT Tryz.prog 207 54 (.int .u16 0) 1 2 := ⟨Tryz.underlying207, by kernel_rfl, rfl, by decide⟩
theorem tRun : SlT Tryz.prog 126 220 (.agg #[.int .u16 0, .int .u64 0]) 2 16 := ⟨Tryz.underlying126, by kernel_rfl, rfl, by decide⟩
theorem heap_newN (w : World) (o : Obj) {n : Nat} (h : n = w.heap.size) : (w.alloc o).heap[n]? = some o := by subst h; exact heap_new w o
theorem starts_snoc {l : List RuN} {j : Nat} (h : j < l.length) : startsN (l.take (j + 1)) = startsN (l.take j) ++ l[j].lo :: (if l[j].hi < 65535 then [l[j].hi + 1] else []) := by
  unfold startsN
  rw [List.take_succ_eq_append_getElem h, List.flatMap_append]
  simp only [List.flatMap_cons, List.flatMap_nil, List.append_nil, List.cons_append]
theorem starts_len (l : List RuN) : (startsN l).length ≤ 1 + 2 * l.length := by
  induction l with
  | nil => simp [startsN]
  | cons r l ih =>
    have e : (startsN (r :: l)).length = (startsN l).length + (1 + (if r.hi < 65535 then [r.hi + 1] else []).length) := by
      simp [startsN]; omega
    rw [e, List.length_cons]
    split <;> simp <;> omega
structure R1 (w wr : World) (l : List RuN) (v : Value) (j : Nat) : Prop where
  own : wr.ownsRow w.heap.size 54 1 v (startsN (l.take j)).length ((startsN (l.take j)).map eUr)
  kp : Kp none' w wr
structure R2 (w wr : World) (l : List RuN) (zs : List Nat) (v : Value) (i : Nat) : Prop where
  own : wr.ownsRow w.heap.size 220 2 v i ((runsOf l (zs.take i)).flatMap enRun)
  kp : Kp none' w wr
theorem own_one (w : World) (x : Nat) : (w.alloc (.cells #[.int .u16 x] 54)).ownsRow w.heap.size 54 1 (.slice (some ⟨w.heap.size, 0, none⟩) 1 1) 1 [.int .u16 x] :=
  ⟨rfl, .inr ⟨w.heap.size, 1, #[.int .u16 x], rfl, Nat.le_refl _, heap_new _ _, Nat.le_refl _, by unfold maxLen; omega, rfl, rfl⟩⟩
set_option maxRecDepth 100000 in
set_option maxHeartbeats 8000000 in
theorem tRuns (l : List RuN) (hok : ∀ r ∈ l, r.Ok) (hn : l.length ≤ 5) (v : Value) (w : World) (h : Sl w v l.length 7 (l.flatMap enR7)) :
    Calls Tryz.prog 91 #[v] w fun e w' => ∃ rv zs, e = .returned rv ∧ Starts l zs ∧ zs.length ≤ 129 ∧ w'.ownsRow w.heap.size 220 2 rv zs.length ((runsOf l zs).flatMap enRun) ∧ Kp none' w w' := by
  obtain ⟨ao, cap, rfl⟩ : ∃ ao cap, v = .slice ao l.length cap := by obtain ⟨ao, cap, rfl, _⟩ := h.is; exact ⟨_, _, rfl⟩
  have HS := Lib.hid h
  have HO := Lib.hid hok
  have HI0 : Hid (R1 w (w.alloc (.cells #[.int .u16 0] 54)) l (.slice (some ⟨w.heap.size, 0, none⟩) 1 1) 0) := ⟨own_one w 0, (Kp.refl _ _).alloc _⟩
  clear h hok
  go_enter Tryz.func91, Tryz.ntmps91
  go_wp2_with fail
  go_loopw [3, 15] (fun s3 i wr => ∃ (j : Nat) (v3 : Value), v3 = s3 ∧ i = .int .i64 j ∧ j ≤ l.length ∧ Hid (R1 w wr l v3 j)) (fun _ i _ => l.length - (intOf i).toNat)
  case atStart => exact ⟨0, _, rfl, rfl, Nat.zero_le _, HI0.out⟩
  case round =>
    clear HI0
    obtain ⟨j, v3, rfl, rfl, hj, HI⟩ := hrel
    obtain ⟨wo, hwo⟩ : ∃ wo : World, wo = wr := ⟨_, rfl⟩
    subst hwo
    by_cases hlt : j < l.length
    · obtain ⟨g, off, cap', e1, hc⟩ := (HS.out.old HI.out.kp).at enR7_len (by decide) j hlt
      injection e1 with e1 _ e3
      cases e1
      subst e3
      have hji : (j : Int) < l.length := by omega
      have hsn := starts_snoc hlt
      obtain ⟨r, hrr⟩ : ∃ r, l[j] = r := ⟨_, rfl⟩
      have hok := HO.out r (by rw [← hrr]; exact List.getElem_mem hlt)
      rw [hrr] at hc hsn
      have c0 : wo.cell? ⟨g, off + j * 7, none⟩ = some (.int .u32 r.s.1) := hc 0 _ rfl
      have c1 := hc 1 _ rfl
      have c2 := hc 2 _ rfl
      have c3 := hc 3 _ rfl
      have c4 := hc 4 _ rfl
      have c5 := hc 5 _ rfl
      have c6 := hc 6 _ rfl
      have hl := starts_len (l.take j)
      rw [List.length_take] at hl
      have hl2 : (startsN (l.take j)).length ≤ 129 := by omega
      have hws := HI.out.kp.size
      have HB := Lib.hid (Blk.new wo (enR7 r) 160)
      have r4 := HB.out.cell 4 rfl
      clear hc hrr hl
      go_wp2_with (at_builtin; refine wp_app1 tU16 (.tmp 19) (.tmp 22) rfl rfl w.heap.size ((HI.out.own.alloc _).alloc _) [.int .u16 r.lo] rfl rfl rfl (heap_newN _ _ (by simp)) rfl (by omega) (by omega) (by simp; omega) ?_)
      intro g2 cap2 w4 hown hgrow
      have hk4 : Kp none' w w4 := ((HI.out.kp.alloc _).alloc _).grown hgrow (fun k hk => .inr (own_block HI.out.own hk).1)
      have hb4 := (HB.out.alloc (.cells #[.int .u16 r.lo] 54)).grown hgrow (fun e => by have := (own_block HI.out.own e.symm).2; omega)
      have r5 := hb4.cell 5 rfl
      have HOW := Lib.hid hown; have HK4 := Lib.hid hk4
      have HSN := Lib.hid hsn
      have hws4 := hk4.size
      clear hown hgrow hk4 hb4 hsn r4 c0 c1 c2 c3 c4 c5 c6 HB
      by_cases hh : r.hi < 65535
      · obtain ⟨q, hq⟩ : ∃ q, r.hi + 1 = q := ⟨_, rfl⟩
        have hw : IntKind.u16.wrap ((r.hi : Int) + 1) = (q : Int) := by rw [IntKind.wrap_u16]; omega
        have HHQ : Hid ((if r.hi < 65535 then [r.hi + 1] else []) = [q]) := by show _ = _; rw [if_pos hh, hq]
        have hhi : (r.hi : Int) < 65535 := by omega
        go_wp2_with (at_builtin; refine wp_app1 tU16 (.tmp 27) (.tmp 31) rfl rfl w.heap.size (HOW.out.alloc _) [.int .u16 q] rfl rfl rfl (heap_newN _ _ (by simp)) rfl (by omega) (by omega) (by simp; omega) ?_)
        intro g3 cap3 w5 hown5 hgrow5
        have hk5 : Kp none' w w5 := (HK4.out.alloc _).grown hgrow5 (fun k hk => .inr (own_block HOW.out hk).1)
        have HF : Hid (R1 w w5 l (.slice (some ⟨g3, 0, none⟩) ((startsN (l.take j)).length + 1 + 1) cap3) (j + 1)) := by
          refine ⟨?_, hk5⟩
          have e : startsN (l.take (j + 1)) = startsN (l.take j) ++ [r.lo, q] := by rw [HSN.out, HHQ.out]
          rw [e, List.length_append, List.map_append]
          simpa using hown5
        clear hown5 hgrow5 hk5 HOW
        go_wp2
        go_roundw
        case rel => exact ⟨j + 1, _, rfl, by go_num, by omega, HF.out⟩
        case measure => simp [intOf]; omega
      · have HHQ : Hid ((if r.hi < 65535 then [r.hi + 1] else []) = []) := by show _ = _; rw [if_neg hh]
        have hhi : ¬ (r.hi : Int) < 65535 := by omega
        have HF : Hid (R1 w w4 l (.slice (some ⟨g2, 0, none⟩) ((startsN (l.take j)).length + 1) cap2) (j + 1)) := by
          refine ⟨?_, HK4.out⟩
          have e : startsN (l.take (j + 1)) = startsN (l.take j) ++ [r.lo] := by rw [HSN.out, HHQ.out]
          rw [e, List.length_append, List.map_append]
          simpa using HOW.out
        clear HOW
        go_wp2
        go_roundw
        case rel => exact ⟨j + 1, _, rfl, by go_num, by omega, HF.out⟩
        case measure => simp [intOf]; omega
    · have hjn : j = l.length := by omega
      subst hjn
      have hl := starts_len l
      have hown := HI.out.own
      rw [List.take_length] at hown
      have hso := sortUint16.sortOf sortUint16.pdqAt12 (by omega) wo w.heap.size 54 v3 (startsN l) hown (by omega)
      have HSO := Lib.hid hso
      have HIo := Lib.hid HI.out.own
      have HKo := Lib.hid HI.out.kp
      clear hown hso
      go_wp2_with (go_at_call 120; refine HSO.out.mono ?_; rintro e w5 ⟨rfl, ys, hrs, hown5, hk5⟩
                   have hne : ys ≠ [] := fun e => by have := hrs.perm.length_eq; rw [e] at this; simp [startsN] at this
                   have HCM := Lib.hid (compactRow w5 w.heap.size v3 ys hown5 hne hrs.up)
                   have HRS := Lib.hid hrs; have HK5 := Lib.hid (HKo.out.then hk5 (fun b hb hbv => by have := (own_block HIo.out hbv).1; omega)); have HOW5 := Lib.hid hown5
                   clear hrs hown5 hk5 hne)
      refine HCM.out.mono ?_
      rintro e w6 ⟨ao2, cap2, zs, rfl, hup, hmem, hzl, hsl, hk6⟩
      have hst : Starts l zs := ⟨hup, fun x => (hmem x).trans HRS.out.perm.mem_iff⟩
      have hyl := HRS.out.perm.length_eq
      have hz129 : zs.length ≤ 129 := by omega
      have HST := Lib.hid hst; have HSL := Lib.hid hsl
      have HK6 := Lib.hid (HK5.out.then hk6 (fun b hb hbv => by have := (own_block HOW5.out hbv).1; omega))
      clear hup hmem hzl hsl hk6 hst hyl HCM HSO HOW5 hl HRS
      go_wp2_with fail
      go_loopw [6, 39] (fun s6 i wr => ∃ (i0 : Nat) (v6 : Value), v6 = s6 ∧ i = .int .i64 i0 ∧ i0 ≤ zs.length ∧ Hid (R2 w6 wr l zs v6 i0)) (fun _ i _ => zs.length - (intOf i).toNat)
      case atStart => exact ⟨0, _, rfl, rfl, Nat.zero_le _, ⟨by simp [runsOf], .inl ⟨rfl, rfl⟩⟩, Kp.refl _ _⟩
      case round =>
        obtain ⟨i0, v6, rfl, rfl, hi0, HI2⟩ := hrel
        obtain ⟨wi, hwi⟩ : ∃ wi : World, wi = wr := ⟨_, rfl⟩
        subst hwi
        by_cases hlt2 : i0 < zs.length
        · obtain ⟨gz, offz, capz, e1, hc⟩ := (HSL.out.old HI2.out.kp).at (enc := fun x => [eUr x]) (fun _ => rfl) (by decide) i0 hlt2
          injection e1 with e1 _ e3
          subst e1 e3
          have hii : (i0 : Int) < zs.length := by omega
          obtain ⟨p, hp⟩ : ∃ p, zs[i0] = p := ⟨_, rfl⟩
          rw [hp] at hc
          have c0 : wi.cell? ⟨gz, offz + i0 * 1, none⟩ = some (.int .u16 p) := hc 0 _ rfl
          rw [Nat.mul_one] at c0
          obtain ⟨f, hf⟩ : ∃ f : Nat → Bool, f = fun k => inR (l.getD k default) p := ⟨_, rfl⟩
          have HF := Lib.hid hf; have HP := Lib.hid hp
          clear hc hf hp
          go_wp2_with fail
          go_loopw [9, 45] (fun m i wr => ∃ k : Nat, i = .int .i64 k ∧ k ≤ l.length ∧ m = .int .u64 (bitsOf f k : Nat) ∧ Hid (Kp none' wi wr)) (fun _ i _ => l.length - (intOf i).toNat)
          case atStart => exact ⟨0, rfl, Nat.zero_le _, rfl, Kp.refl _ _⟩
          case round =>
            obtain ⟨k, rfl, hk, rfl, HK⟩ := hrel
            by_cases hkl : k < l.length
            · obtain ⟨g, off, cap3, e1, hc⟩ := (HS.out.old ((HK6.out.trans HI2.out.kp).trans HK.out)).at enR7_len (by decide) k hkl
              injection e1 with e1 _ e3
              subst e1 e3
              have hki : (k : Int) < l.length := by omega
              have hk64 : k < 64 := by omega
              obtain ⟨o, ho⟩ : ∃ o, l[k] = o := ⟨_, rfl⟩
              rw [ho] at hc
              have d0 : wr.cell? ⟨g, off + k * 7, none⟩ = some (.int .u32 o.s.1) := hc 0 _ rfl
              have d1 := hc 1 _ rfl
              have d2 := hc 2 _ rfl
              have d3 := hc 3 _ rfl
              have d4 := hc 4 _ rfl
              have d5 := hc 5 _ rfl
              have d6 := hc 6 _ rfl
              have hfk : f k = inR o p := by rw [HF.out]; show inR (l.getD k default) p = _; rw [getD_at _ hkl, ho]
              have HKn := Lib.hid (HK.out.alloc (.cells #[.int .u32 o.s.1, .int .i64 o.s.2, .int .u32 o.d.1, .int .i64 o.d.2, .int .u16 o.lo, .int .u16 o.hi, .int .u32 o.fl] 160))
              clear hc ho
              cases hfv : f k with
              | true =>
                have hor := bits_step hk64 hfv
                rw [hfk] at hfv
                unfold inR at hfv
                rw [Bool.and_eq_true, decide_eq_true_eq, decide_eq_true_eq] at hfv
                obtain ⟨h1, h2⟩ := hfv
                obtain ⟨m, hm⟩ : ∃ m, bitsOf f k = m := ⟨_, rfl⟩
                obtain ⟨m', hm'⟩ : ∃ m, bitsOf f (k + 1) = m := ⟨_, rfl⟩
                rw [hm, hm'] at hor
                have HM' := Lib.hid hm'
                simp only [hm]
                clear hm hm' hfk
                go_wp2_with fail
                go_roundw
                case rel => exact ⟨k + 1, by go_num, by omega, by rw [HM'.out], HKn.out⟩
                case measure => simp [intOf]; omega
              | false =>
                have hsk := bits_skip hfv
                have HSK := Lib.hid hsk
                rw [hfk] at hfv
                unfold inR at hfv
                obtain ⟨m, hm⟩ : ∃ m, bitsOf f k = m := ⟨_, rfl⟩
                have HM' := Lib.hid hm
                simp only [hm]
                clear hm hsk hfk
                by_cases h1 : o.lo ≤ p
                · have h2 : ¬ p ≤ o.hi := by
                    intro h2
                    rw [decide_eq_true h1, decide_eq_true h2] at hfv; cases hfv
                  clear hfv
                  go_wp2_with fail
                  go_roundw
                  case rel => exact ⟨k + 1, by go_num, by omega, by rw [HSK.out, HM'.out], HKn.out⟩
                  case measure => simp [intOf]; omega
                · clear hfv
                  go_wp2_with fail
                  go_roundw
                  case rel => exact ⟨k + 1, by go_num, by omega, by rw [HSK.out, HM'.out], HKn.out⟩
                  case measure => simp [intOf]; omega
            · have hkn : k = l.length := by omega
              subst hkn
              have hset : bitsOf f l.length = setR l p := by rw [HF.out]; rfl
              obtain ⟨m, hm⟩ : ∃ m, bitsOf f l.length = m := ⟨_, rfl⟩
              rw [hm] at hset
              have HSET := Lib.hid hset
              simp only [hm]
              have hws2 := (HI2.out.kp.trans HK.out).size
              have HOW := Lib.hid (own_kp (S := none') HI2.out.own HK.out (fun _ _ h => h))
              clear hm hset
              go_wp2_with (at_builtin; refine wp_app1 tRun (.tmp 65) (.tmp 69) rfl rfl w6.heap.size (HOW.out.alloc _) [.int .u16 p, .int .u64 m] rfl rfl rfl (heap_newN _ _ (by simp)) rfl (by omega) (by omega) (by simp; omega) ?_)
              intro g3 cap4 w8 hown8 hgrow8
              have hk8 : Kp none' w6 w8 := ((HI2.out.kp.trans HK.out).alloc _).grown hgrow8 (fun k hk => .inr (own_block HOW.out hk).1)
              have HF8 : Hid (R2 w6 w8 l zs (.slice (some ⟨g3, 0, none⟩) (i0 + 1) cap4) (i0 + 1)) := by
                refine ⟨?_, hk8⟩
                have e : (runsOf l (zs.take (i0 + 1))).flatMap enRun = (runsOf l (zs.take i0)).flatMap enRun ++ [.int .u16 p, .int .u64 m] := by
                  rw [List.take_succ_eq_append_getElem hlt2, HP.out]
                  unfold runsOf
                  rw [List.map_append, List.flatMap_append, HSET.out]
                  rfl
                rw [e]
                exact hown8
              clear hown8 hgrow8 hk8 HOW
              go_wp2
              go_roundw
              case rel => exact ⟨i0 + 1, _, rfl, by go_num, by omega, HF8.out⟩
              case measure => simp [intOf]; omega
        · have hin : i0 = zs.length := by omega
          subst hin
          have hown := HI2.out.own
          rw [List.take_length] at hown
          have HOW := Lib.hid hown
          clear hown
          go_wp2_with fail
          go_ret
          exact ⟨_, zs, rfl, HST.out, hz129, own_base HOW.out HK6.out.size, HK6.out.trans HI2.out.kp⟩

theorem bad_at {l : List RuN} {j : Nat} (h : j < l.length) (hn : l.length ≤ 64) (hb : badR l[j] = true) : chkN l = 6 := by
  unfold chkN
  rw [if_neg (by omega), if_pos (List.any_eq_true.2 ⟨_, List.getElem_mem h, hb⟩)]
theorem good_all {l : List RuN} (hn : l.length ≤ 64) (h : ∀ r ∈ l, badR r = false) : chkN l = 0 := chk_zero.2 ⟨hn, h⟩
theorem goodr_snoc {l : List RuN} {j : Nat} (h : j < l.length) (hb : badR l[j] = false) (ha : ∀ r ∈ l.take j, badR r = false) : ∀ r ∈ l.take (j + 1), badR r = false := by
  rw [List.take_succ_eq_append_getElem h]
  intro r hr
  rw [List.mem_append, List.mem_singleton] at hr
  rcases hr with hr | rfl
  · exact ha r hr
  · exact hb
set_option maxRecDepth 100000 in
set_option maxHeartbeats 8000000 in
theorem tCheck (l : List RuN) (hok : ∀ r ∈ l, r.Ok) (v : Value) (w : World) (h : Sl w v l.length 7 (l.flatMap enR7)) :
    Calls Tryz.prog 83 #[v] w fun e w' => e = .returned (.int .i64 (chkN l : Nat)) ∧ Kp none' w w' := by
  have hmax := h.max
  obtain ⟨ao, cap, rfl⟩ : ∃ ao cap, v = .slice ao l.length cap := by obtain ⟨ao, cap, rfl, _⟩ := h.is; exact ⟨_, _, rfl⟩
  have HS := Lib.hid h
  have HO := Lib.hid hok
  clear h hok
  by_cases hbig : 64 < l.length
  · have hc : chkN l = 20 := by unfold chkN; rw [if_pos hbig]
    have HC := Lib.hid hc
    obtain ⟨c, hcc⟩ : ∃ c, chkN l = c := ⟨_, rfl⟩
    rw [hcc] at hc ⊢
    subst hc
    have hbi : (64 : Int) < l.length := by omega
    clear hcc
    go_enter Tryz.func83, Tryz.ntmps83
    go_wp2
    go_ret
    exact ⟨rfl, Kp.refl _ _⟩
  · have hbi : ¬ (64 : Int) < l.length := by omega
    obtain ⟨c, hcc⟩ : ∃ c, chkN l = c := ⟨_, rfl⟩
    rw [hcc]
    have HC := Lib.hid hcc
    clear hcc
    go_enter Tryz.func83, Tryz.ntmps83
    go_wp2_with fail
    go_loopw [10] (fun i wr => ∃ j : Nat, i = .int .i64 j ∧ j ≤ l.length ∧ Hid ((∀ r ∈ l.take j, badR r = false) ∧ Kp none' w wr)) (fun i _ => l.length - (intOf i).toNat)
    case atStart => exact ⟨0, rfl, Nat.zero_le _, by simp, Kp.refl _ _⟩
    case round =>
      obtain ⟨j, rfl, hj, HI⟩ := hrel
      by_cases hlt : j < l.length
      · obtain ⟨g, off, cap', e1, hc⟩ := (HS.out.old HI.out.2).at enR7_len (by decide) j hlt
        injection e1 with e1 _ e3
        subst e1 e3
        have hji : (j : Int) < l.length := by omega
        have hbad := bad_at hlt (by omega)
        have hgood := fun h => goodr_snoc hlt h HI.out.1
        obtain ⟨r, hrr⟩ : ∃ r, l[j] = r := ⟨_, rfl⟩
        have hro := HO.out r (by rw [← hrr]; exact List.getElem_mem hlt)
        rw [hrr] at hc hbad hgood
        have HBAD := Lib.hid hbad; have HGOOD := Lib.hid hgood
        have c0 : wr.cell? ⟨g, off + j * 7, none⟩ = some (.int .u32 r.s.1) := hc 0 _ rfl
        have c1 := hc 1 _ rfl
        have c2 := hc 2 _ rfl
        have c3 := hc 3 _ rfl
        have c4 := hc 4 _ rfl
        have c5 := hc 5 _ rfl
        have c6 := hc 6 _ rfl
        have HRs := Lib.hid (fun W => aRight r.s.1 r.s.2 W hro.s.1 hro.s.2)
        have HRd := Lib.hid (fun W => aRight r.d.1 r.d.2 W hro.d.1 hro.d.2)
        have HB := Lib.hid (Blk.new wr (enR7 r) 160)
        have HK0 := Lib.hid (HI.out.2.alloc (.cells (enR7 r).toArray 160))
        clear hc hrr hbad hgood hro
        cases hs : rightB r.s.1 r.s.2 with
        | false =>
          have hb : badR r = true := by unfold badR; rw [hs]; rfl
          have HE := Lib.hid (HC.out.symm.trans (HBAD.out hb))
          rw [hs] at HRs
          clear hb hs HRd
          go_wp2_with fail
          refine (HRs.out _).mono ?_
          rintro e w1 ⟨rfl, hk1⟩
          have HK1 := Lib.hid (HK0.out.trans hk1)
          clear hk1
          go_wp2_with fail
          go_ret
          exact ⟨by rw [HE.out]; rfl, HK1.out⟩
        | true =>
          rw [hs] at HRs
          cases hd : rightB r.d.1 r.d.2 with
          | false =>
            have hb : badR r = true := by unfold badR; rw [hs, hd]; rfl
            have HE := Lib.hid (HC.out.symm.trans (HBAD.out hb))
            rw [hd] at HRd
            clear hb hs hd
            go_wp2_with fail
            refine (HRs.out _).mono ?_
            rintro e w1 ⟨rfl, hk1⟩
            have HK1 := Lib.hid (HK0.out.trans hk1)
            have r2 := (HB.out.kp hk1 (fun x => x)).cell 2 rfl
            have r3 := (HB.out.kp hk1 (fun x => x)).cell 3 rfl
            clear hk1
            go_wp2_with fail
            refine (HRd.out _).mono ?_
            rintro e w2 ⟨rfl, hk2⟩
            have HK2 := Lib.hid (HK1.out.trans hk2)
            clear hk2
            go_wp2_with fail
            go_ret
            exact ⟨by rw [HE.out]; rfl, HK2.out⟩
          | true =>
            rw [hd] at HRd
            by_cases hlh : r.lo ≤ r.hi
            · have hb : badR r = false := bad_false.2 ⟨hs, hd, hlh⟩
              have HG := Lib.hid (HGOOD.out hb)
              have hlh2 : ¬ r.hi < r.lo := by omega
              clear hb hs hd
              go_wp2_with fail
              refine (HRs.out _).mono ?_
              rintro e w1 ⟨rfl, hk1⟩
              have HK1 := Lib.hid (HK0.out.trans hk1)
              have HB1 := Lib.hid (HB.out.kp hk1 (fun x => x))
              have r2 := HB1.out.cell 2 rfl
              have r3 := HB1.out.cell 3 rfl
              clear hk1
              go_wp2_with fail
              refine (HRd.out _).mono ?_
              rintro e w2 ⟨rfl, hk2⟩
              have HK2 := Lib.hid (HK1.out.trans hk2)
              have r4 := (HB1.out.kp hk2 (fun x => x)).cell 4 rfl
              have r5 := (HB1.out.kp hk2 (fun x => x)).cell 5 rfl
              clear hk2 r2 r3
              go_wp2_with fail
              go_roundw
              case rel => exact ⟨j + 1, by go_num, by omega, HG.out, HK2.out⟩
              case measure => simp [intOf]; omega
            · have hb : badR r = true := by unfold badR; rw [hs, hd, decide_eq_false hlh]; rfl
              have HE := Lib.hid (HC.out.symm.trans (HBAD.out hb))
              have hlh2 : r.hi < r.lo := by omega
              clear hb hs hd
              go_wp2_with fail
              refine (HRs.out _).mono ?_
              rintro e w1 ⟨rfl, hk1⟩
              have HK1 := Lib.hid (HK0.out.trans hk1)
              have HB1 := Lib.hid (HB.out.kp hk1 (fun x => x))
              have r2 := HB1.out.cell 2 rfl
              have r3 := HB1.out.cell 3 rfl
              clear hk1
              go_wp2_with fail
              refine (HRd.out _).mono ?_
              rintro e w2 ⟨rfl, hk2⟩
              have HK2 := Lib.hid (HK1.out.trans hk2)
              have r4 := (HB1.out.kp hk2 (fun x => x)).cell 4 rfl
              have r5 := (HB1.out.kp hk2 (fun x => x)).cell 5 rfl
              clear hk2 r2 r3
              go_wp2_with fail
              go_ret
              exact ⟨by rw [HE.out]; rfl, HK2.out⟩
      · have hjn : j = l.length := by omega
        subst hjn
        have hg := HI.out.1
        rw [List.take_length] at hg
        have HE := Lib.hid (HC.out.symm.trans (good_all (by omega) hg))
        clear hg
        go_wp2_with fail
        go_ret
        exact ⟨by rw [HE.out]; rfl, HI.out.2⟩
end Go.Proofs.YtfckgddodjmbdaaGreatDoor
