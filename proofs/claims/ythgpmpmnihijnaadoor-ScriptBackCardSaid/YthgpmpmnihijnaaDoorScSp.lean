/- strings.SplitSeq's call. -/
import Derived.Test.YthgpmpmnihijnaaDoorScIt
namespace Go.Proofs.YthgpmpmnihijnaaDoor
set_option linter.unusedVariables false
set_option linter.unusedSimpArgs false
open Go.RowKit Go.Shelf
structure SplitAt (w w' : World) (s : ByteArray) (bsep bs b0 : Nat) : Prop where
  sep : Blk w' bsep [.string ⟨#[10]⟩] 9
  s : Blk w' bs [.string s] 9
  z : Blk w' b0 [.int .i64 0] 3
  n1 : bs ≠ bsep
  n2 : bs ≠ b0
  l1 : w.heap.size ≤ bsep
  l2 : w.heap.size ≤ bs
  l3 : w.heap.size ≤ b0
  kp : Kp none' w w'
theorem splitAt_new (w : World) (s : ByteArray) : SplitAt w (((w.alloc (.cells #[.string s] 9)).alloc (.cells #[.string ⟨#[10]⟩] 9)).alloc (.cells #[.int .i64 0] 3)) s (w.heap.size + 1) w.heap.size (w.heap.size + 1 + 1) := by
  have h1 : Blk (((w.alloc (.cells #[.string s] 9)).alloc (.cells #[.string ⟨#[10]⟩] 9)).alloc (.cells #[.int .i64 0] 3)) (w.heap.size + 1) [.string ⟨#[10]⟩] 9 := by
    have := (Blk.new (w.alloc (.cells #[.string s] 9)) [.string ⟨#[10]⟩] 9).alloc (.cells #[.int .i64 0] 3)
    simpa only [World.size_alloc] using this
  have h3 : Blk (((w.alloc (.cells #[.string s] 9)).alloc (.cells #[.string ⟨#[10]⟩] 9)).alloc (.cells #[.int .i64 0] 3)) (w.heap.size + 1 + 1) [.int .i64 0] 3 := by
    have := Blk.new ((w.alloc (.cells #[.string s] 9)).alloc (.cells #[.string ⟨#[10]⟩] 9)) [.int .i64 0] 3
    simpa only [World.size_alloc] using this
  exact ⟨h1, ((Blk.new w [.string s] 9).alloc _).alloc _, h3, by omega, by omega, by omega, by omega, by omega, (((Kp.refl _ _).alloc _).alloc _).alloc _⟩
theorem sSplit0 (s : ByteArray) (w : World) : Calls Tryd.prog 24 #[.string s, .string ⟨#[10]⟩, .int .i64 0] w fun e w' => ∃ bsep bs b0, e = .returned (.func (.func 36) #[] #[.pointer (some ⟨bsep, 0, none⟩), .pointer (some ⟨bs, 0, none⟩), .pointer (some ⟨b0, 0, none⟩)]) ∧ SplitAt w w' s bsep bs b0 := by
  have HN := Lib.hid (splitAt_new w s)
  go_enter Tryd.func24, Tryd.ntmps24
  go_wp2
  go_ret
  exact ⟨_, _, _, rfl, HN.out⟩
theorem sSplit (s : ByteArray) (w : World) : Calls Tryd.prog 12 #[.string s, .string ⟨#[10]⟩] w fun e w' => ∃ bsep bs b0, e = .returned (.func (.func 36) #[] #[.pointer (some ⟨bsep, 0, none⟩), .pointer (some ⟨bs, 0, none⟩), .pointer (some ⟨b0, 0, none⟩)]) ∧ SplitAt w w' s bsep bs b0 := by
  have H := Lib.hid (sSplit0 s w)
  go_enter Tryd.func12, Tryd.ntmps12
  go_wp2_with fail
  refine (H.out).mono ?_
  rintro e w1 ⟨bsep, bs, b0, rfl, h⟩
  have HH := Lib.hid h
  clear h
  go_wp2
  go_ret
  exact ⟨_, _, _, rfl, HH.out⟩
end Go.Proofs.YthgpmpmnihijnaaDoor
