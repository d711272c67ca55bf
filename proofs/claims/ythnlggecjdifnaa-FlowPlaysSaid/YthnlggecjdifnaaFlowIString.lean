/- What the functions of package flow compute, at things of kind string: IDs, in order. -/
import Derived.Test.YthnlggecjdifnaaFlowNString
import Derived.Test.YthnlggecjdifnaaSoCUint32
namespace Go.Proofs.Ythnlggecjdifnaa.flowString
set_option linter.unusedVariables false
set_option linter.unusedSimpArgs false
open Go.RowKit Go.Proofs.Ythnlggecjdifnaa

theorem tU32 : SlT Try.prog 48 29 (.int .u32 0) 1 4 := ⟨Try.underlying48, by kernel_rfl, rfl, by decide⟩
theorem heap_newN (w : World) (o : Obj) {n : Nat} (h : n = w.heap.size) : (w.alloc o).heap[n]? = some o := by subst h; exact heap_new w o
def idsF (S : Slots Th) : List Nat := (entsF S).map (·.1)
theorem ids_len (S : Slots Th) : (idsF S).length = (entsF S).length := by simp [idsF]
theorem idsRow (S : Slots Th) (j : Nat) (hj : j < S.length) : idsF (S.take (j + 1)) = idsF (S.take j) ++ (match tAt S j with | some (k, _) => [k] | none => []) := by
  unfold idsF
  rw [ents_step S j hj, List.map_append]
  cases tAt S j with
  | none => rfl
  | some e => rfl
/-- What the loop keeps. -/
structure IdI (S : Slots Th) (w wr : World) (tb sb i : Nat) (n room : Nat) (v : Value) : Prop where
  mem : TMem wr tb sb S n room
  own : wr.ownsRow w.heap.size 29 1 v (idsF (S.take i)).length ((idsF (S.take i)).map sortUint32.en)
  kp : Kp none' w wr

set_option maxRecDepth 100000 in
set_option maxHeartbeats 1000000 in
theorem fIDs {most : Nat} (HP : sortUint32.PdqAt most) (hmost : most < 4611686018427387904) (w : World) (tb sb : Nat) (S : Slots Th) (n room : Nat) (h : TMem w tb sb S n room) (ok : TOk S n room) (hn : n ≤ most) :
    Calls Try.prog 12 #[.pointer (some ⟨tb, 0, none⟩)] w fun e w' => ∃ v ys, e = .returned v ∧ sortUint32.Rising (idsF S) ys ∧ w'.ownsRow w.heap.size 29 1 v ys.length (ys.map sortUint32.en) ∧ Kp none' w w' := by
  have c := h.top.cell 0 rfl
  have hb2 := ok.b2
  have HM := Lib.hid h
  have hcnt := ok.cnt
  have HI : Hid (IdI S w w tb sb 0 n room (.slice none 0 0)) := ⟨h, ⟨by simp [idsF, entsF], .inl ⟨rfl, by simp [idsF, entsF]⟩⟩, Kp.refl _ _⟩
  have hids := ok.ids
  clear h
  go_enter Try.func12, Try.ntmps12
  go_wp2_with fail
  clear c
  go_loopw [3, 13] (fun v0 i0 wr => ∃ (i : Nat) (s3 : Value), s3 = v0 ∧ i0 = .int .i64 i ∧ i ≤ S.length ∧ Hid (IdI S w wr tb sb i n room s3)) (fun _ i0 _ => S.length - (intOf i0).toNat)
  case atStart => exact ⟨0, _, rfl, rfl, by omega, HI.out⟩
  case round =>
    obtain ⟨i, s3, rfl, rfl, hi, hr⟩ := hrel
    by_cases hlt : i < S.length
    · have hii : (i : Int) < S.length := by omega
      have G := Lib.hid hr.out
      have hst := idsRow S i hlt
      have hle := ents_len (S.take i)
      rw [List.length_take] at hle
      have hil : (idsF (S.take i)).length ≤ 8192 := by rw [ids_len]; omega
      clear hle
      have hoc : ∀ k u, k < 3 → (enS (tAt S i))[k]? = some u → wr.cell? ⟨sb, i * 3 + k, none⟩ = some u := fun k u hk hu => G.out.mem.cell i k hk hu hlt
      clear hr HI
      cases ht : tAt S i with
      | none =>
        rw [ht] at hoc hst
        have o0 := hoc 0 _ (by omega) rfl
        have o1 := hoc 1 _ (by omega) rfl
        have o2 := hoc 2 _ (by omega) rfl
        simp only [Nat.add_zero] at o0
        simp only [List.append_nil] at hst
        have HST := Lib.hid hst
        have hk1 := (Kp.refl none' wr).alloc (.cells #[.int .u32 0, .bool false, en zx] 69)
        have HG : Hid (IdI S w (wr.alloc (.cells #[.int .u32 0, .bool false, en zx] 69)) tb sb (i + 1) n room s3) := ⟨G.out.mem.old hk1, by rw [HST.out]; exact own_kp (S := none') G.out.own hk1 (fun _ _ h => h), G.out.kp.trans hk1⟩
        clear hoc hst ht hk1
        go_wp2_with fail
        go_roundw
        case rel => exact ⟨i + 1, _, rfl, by go_num, by omega, HG.out⟩
        case measure => simp [intOf]; omega
      | some ex =>
        obtain ⟨k, x⟩ := ex
        rw [ht] at hoc hst
        have o0 := hoc 0 _ (by omega) rfl
        have o1 := hoc 1 _ (by omega) rfl
        have o2 := hoc 2 _ (by omega) rfl
        simp only [Nat.add_zero] at o0
        have HST := Lib.hid hst
        have hk1 := (Kp.refl none' wr).alloc (.cells #[.int .u32 k, .bool true, en x] 69)
        have hb1 := Blk.new wr (enS (some (k, x))) 69
        have x0 := hb1.cell 0 rfl
        have x1 := hb1.cell 1 rfl
        have HG : Hid (IdI S w (wr.alloc (.cells #[.int .u32 k, .bool true, en x] 69)) tb sb i n room s3) := ⟨G.out.mem.old hk1, own_kp (S := none') G.out.own hk1 (fun _ _ h => h), G.out.kp.trans hk1⟩
        clear hoc hst ht hk1 hb1
        have hwz := G.out.kp.size
        clear G
        go_wp2_with (at_builtin; refine wp_app1 tU32 (.tmp 19) (.tmp 22) rfl rfl w.heap.size (HG.out.own.alloc _) [.int .u32 k] rfl rfl rfl (heap_newN _ _ (by simp)) rfl (by omega) (by omega) (by simp; omega) ?_)
        intro g cap w4 hown hgrow
        have HOW := Lib.hid hown
        have HGR := Lib.hid hgrow
        clear hown hgrow
        have HF : Hid (IdI S w w4 tb sb (i + 1) n room (.slice (some ⟨g, 0, none⟩) ((idsF (S.take i)).length + 1) cap)) := by
          have hk2 : Kp none' w w4 := ((HG.out.kp).alloc _).grown HGR.out (fun k hk => .inr (own_block HG.out.own hk).1)
          refine ⟨HM.out.old hk2, ?_, hk2⟩
          have := HOW.out
          rw [HST.out, List.map_append, List.length_append]
          simpa using this
        clear HG HOW HGR
        go_wp2
        go_roundw
        case rel => exact ⟨i + 1, _, rfl, by go_num, by omega, HF.out⟩
        case measure => simp [intOf]; omega
    · have hie : i = S.length := by omega
      subst hie
      have G := Lib.hid hr.out
      have hown := G.out.own
      rw [List.take_length] at hown
      have hil := ids_len S
      have HS := Lib.hid (sortUint32.sortOf HP hmost wr w.heap.size 29 s3 (idsF S) hown (by omega))
      clear hr HI hown
      go_wp2_with (go_at_call 29; refine HS.out.mono ?_; rintro e w5 ⟨rfl, ys, hrs, hown5, hk5⟩)
      go_ret
      refine ⟨_, ys, rfl, hrs, hown5, ?_⟩
      exact G.out.kp.then hk5 (fun b hb hbv => by have := (own_block G.out.own hbv).1; omega)
end Go.Proofs.Ythnlggecjdifnaa.flowString
