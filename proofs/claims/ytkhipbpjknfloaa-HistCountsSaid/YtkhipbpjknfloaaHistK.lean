/- Layer 38: the buckets that count something, rising: what slices.Sorted(maps.Keys(..)) hands back. -/
import Derived.Test.YtkhipbpjknfloaaHistA
import Derived.Test.YtkhipbpjknfloaaShelfKeys
import Derived.Test.YtkhipbpjknfloaaShelf
namespace Go.Proofs.Ytkhipbpjknfloaa
set_option linter.unusedVariables false
set_option linter.unusedSimpArgs false
open Go.RowKit Go.Maps Go.Shelf Go.Sort
/-- A number laid into a rising list. -/
def insN (b : Nat) : List Nat → List Nat
  | [] => [b]
  | x :: r => if b < x then b :: x :: r else if b = x then x :: r else x :: insN b r
theorem ins_mem (b y : Nat) (l : List Nat) : y ∈ insN b l ↔ y = b ∨ y ∈ l := by
  induction l with
  | nil => simp [insN]
  | cons x r ih =>
    unfold insN
    split
    · simp
    · split
      · next h => subst h; simp
      · simp only [List.mem_cons, ih]; constructor <;> rintro (h | h | h) <;> simp [h]
theorem ins_up (b : Nat) (l : List Nat) (h : l.Pairwise (· < ·)) : (insN b l).Pairwise (· < ·) := by
  induction l with
  | nil => simp [insN]
  | cons x r ih =>
    obtain ⟨h1, h2⟩ := List.pairwise_cons.1 h
    unfold insN
    split
    · next hb => exact List.pairwise_cons.2 ⟨fun y hy => by rcases List.mem_cons.1 hy with rfl | hy; exact hb; have := h1 y hy; omega, h⟩
    · split
      · exact h
      · refine List.pairwise_cons.2 ⟨fun y hy => ?_, ih h2⟩
        rcases (ins_mem b y r).1 hy with rfl | hy
        · omega
        · exact h1 y hy
/-- The buckets that count something, rising. -/
def ksN (f : Nat) (l : List Ad) : List Nat := l.foldl (fun ks e => if 0 < e.2 then insN (bk f e.1) ks else ks) []
theorem ks_snoc (f : Nat) (l : List Ad) (e : Ad) : ksN f (l ++ [e]) = if 0 < e.2 then insN (bk f e.1) (ksN f l) else ksN f l := by
  unfold ksN; rw [List.foldl_append]; rfl
theorem snoc_ind {α : Type} {P : List α → Prop} (h0 : P []) (h1 : ∀ l e, P l → P (l ++ [e])) (l : List α) : P l := by
  rw [← List.reverse_reverse l]
  induction l.reverse with
  | nil => exact h0
  | cons a r ih => rw [List.reverse_cons]; exact h1 _ _ ih
theorem ks_up (f : Nat) (l : List Ad) : (ksN f l).Pairwise (· < ·) := by
  induction l using snoc_ind with
  | h0 => exact List.Pairwise.nil
  | h1 l e ih => rw [ks_snoc]; split; exact ins_up _ _ ih; exact ih
theorem ks_mem (f : Nat) (l : List Ad) (b : Nat) : b ∈ ksN f l ↔ inB f l b := by
  induction l using snoc_ind with
  | h0 => exact ⟨fun h => (by cases h), fun ⟨e, he, _⟩ => (by cases he)⟩
  | h1 l e ih =>
    rw [ks_snoc]
    have hs : inB f (l ++ [e]) b ↔ inB f l b ∨ (0 < e.2 ∧ bk f e.1 = b) := by
      unfold inB
      constructor
      · rintro ⟨x, hx, h1, h2⟩
        rcases List.mem_append.1 hx with h | h
        · exact .inl ⟨x, h, h1, h2⟩
        · simp only [List.mem_singleton] at h; subst h; exact .inr ⟨h1, h2⟩
      · rintro (⟨x, hx, h⟩ | h)
        · exact ⟨x, List.mem_append_left _ hx, h⟩
        · exact ⟨e, by simp, h⟩
    rw [hs]
    split
    · next h => rw [ins_mem, ih]; constructor; rintro (rfl | h2); exact .inr ⟨h, rfl⟩; exact .inl h2; rintro (h2 | h2); exact .inr h2; exact .inl h2.2.symm
    · next h => rw [ih]; constructor; exact .inl; rintro (h2 | h2); exact h2; exact absurd h2.1 h
theorem up_unique : ∀ (a b : List Nat), a.Pairwise (· < ·) → b.Pairwise (· < ·) → (∀ x, x ∈ a ↔ x ∈ b) → a = b
  | [], [], _, _, _ => rfl
  | [], y :: s, _, _, h => by have := (h y).2 (by simp); cases this
  | x :: r, [], _, _, h => by have := (h x).1 (by simp); cases this
  | x :: r, y :: s, ha, hb, h => by
    obtain ⟨a1, a2⟩ := List.pairwise_cons.1 ha
    obtain ⟨b1, b2⟩ := List.pairwise_cons.1 hb
    have hxy : x = y := by
      have h1 := (h x).1 (by simp)
      have h2 := (h y).2 (by simp)
      rcases List.mem_cons.1 h1 with e | h1
      · exact e
      · rcases List.mem_cons.1 h2 with e | h2
        · exact e.symm
        · have := a1 y h2; have := b1 x h1; omega
    subst hxy
    rw [up_unique r s a2 b2 (fun z => by
      have hz := h z
      simp only [List.mem_cons] at hz
      constructor
      · intro hr
        have := a1 z hr
        rcases hz.1 (.inr hr) with e | e
        · omega
        · exact e
      · intro hs
        have := b1 z hs
        rcases hz.2 (.inr hs) with e | e
        · omega
        · exact e)]
theorem ks_bnd {f : Nat} (hf : f ≤ 8) {l : List Ad} (hl : ∀ e ∈ l, e.1 < 18446744073709551616) {b : Nat} (h : b ∈ ksN f l) : b ≤ bk f 18446744073709551615 ∧ b ≤ 20000 := by
  obtain ⟨e, he, _, rfl⟩ := (ks_mem f l b).1 h
  exact ⟨bk_mono f (by have := hl e he; omega), bk_bnd hf (hl e he)⟩
theorem ks_len (f : Nat) (l : List Ad) : (ksN f l).length ≤ l.length := by
  induction l using snoc_ind with
  | h0 => exact Nat.le_refl _
  | h1 l e ih =>
    rw [ks_snoc, List.length_append]
    have hi : ∀ b m, (insN b m).length ≤ m.length + 1 := fun b m => by
      induction m with
      | nil => simp [insN]
      | cons x r ih => unfold insN; split; simp; split; simp; simp; exact ih
    split
    · have := hi (bk f e.1) (ksN f l); simp; omega
    · simp; omega
theorem sorts38 (m : Nat) : AnyZI.SortsIn Try.prog Try.sortedA_ren Fence.wide m :=
  ⟨fun blk off cap ss W hH hblk hsz => callsIn_wide.2 (Any.slices_Sort_int Try.lays189k blk off cap ss W hH hblk hsz),
   fun p cap W => callsIn_wide.2 (Any.slices_Sort_int_none Try.lays189k p cap W)⟩
abbrev mT : TypeId := 97
theorem keysCall (mb : Option Nat) (W : World) : Calls Try.prog 71 #[.map mb] W fun e w' => e = .returned (.func (.func 91) #[] #[.pointer (some ⟨W.heap.size, 0, none⟩)]) ∧ w' = W.alloc (.cells #[.map mb] mT) :=
  (callsIn_wide (n := 5)).1 (AnyZI.keys_in Try.keysA Fence.wide 5 trivial rfl mb W)
theorem kp_below {w w' : World} {B : Nat} (h : Below B w w') (hB : w.heap.size ≤ B) : Kp none' w w' := (Kp.of_below h).mono fun b hb hB2 => by omega
theorem map_up {f : Nat} {l : List Ad} : ((ksN f l).map (fun b : Nat => (b : Int))).Nodup := by
  have h := ks_up f l
  unfold List.Nodup
  rw [List.pairwise_map]
  exact h.imp fun hab e => by omega
theorem sortedCall {w : World} {hb f mb n : Nat} {D : DU} {l : List Ad} (h : HMem w hb f mb n D l) (hl : l.length ≤ 1000000) :
    Calls Try.prog 70 #[.func (.func 91) #[] #[.pointer (some ⟨w.heap.size, 0, none⟩)]] (w.alloc (.cells #[.map (some mb)] mT)) fun e w' => ∃ v, e = .returned v ∧
      w'.ownsRow w.heap.size 3 1 v (ksN f l).length ((ksN f l).map fun b : Nat => Value.int .i64 b) ∧ Kp none' (w.alloc (.cells #[.map (some mb)] mT)) w' := by
  have hown := h.own
  have hbl := hown.lt
  have hperm : ((ksN f l).map (fun b : Nat => (b : Int))).Perm (intKeys D) := by
    refine CollectedI.perm (left := fun _ => false) ⟨map_up, fun x => ?_⟩ hown (int_keyed Try.underlying3) Try.underlying3 (fun _ => rfl)
    rw [show (.int .i64 x : Lit) = kI x from rfl, h.hs]
    simp only [List.mem_map, and_true, ks_mem]
    constructor
    · rintro ⟨b, hb, rfl⟩; exact ⟨b, rfl, hb⟩
    · rintro ⟨b, rfl, hb⟩; exact ⟨b, hb, rfl⟩
  have hsz : Maps.size D ≤ 1000000 := by
    obtain ⟨es, hD, _⟩ := hown.entries (int_keyed Try.underlying3)
    have := hperm.length_eq
    have h2 := ks_len f l
    rw [hD] at this ⊢
    simp [intKeys, Maps.size] at this ⊢
    omega
  have hseq : SeqGives Fence.wide 2 Try.prog 91 #[.pointer (some ⟨w.heap.size, 0, none⟩)] encZ (fun ss => ss.Perm (intKeys D)) (Maps.size D) (w.alloc (.cells #[.map (some mb)] mT)) :=
    AnyZI.keys_gives (ρ := Try.keysA_ren) { Try.keysA with } Fence.wide _ trivial rfl (by omega) w.heap.size mb n D _ (by simp) (by simp) (own_map_kp hown ((Kp.refl none' _).alloc _) (fun x => x))
  have cS := AnyZI.sorted_in Try.sortedA Fence.wide 5 trivial trivial trivial trivial rfl (by omega) (sorts38 _) (enters_of Try.func90 (by kernel_rfl) rfl) 91 #[.pointer (some ⟨w.heap.size, 0, none⟩)] trivial (enters_of Try.func91 (by kernel_rfl) rfl) _ _ (by unfold maxLen; omega) (by omega) _ hseq
  refine Calls.mono ((callsIn_wide (n := 5)).1 cS) ?_
  rintro e w' ⟨v, ss, rfl, hS, hrow, _, hbelow⟩
  have hs1 : ss.mergeSort (fun x y => decide (x ≤ y)) = (ksN f l).map (fun b : Nat => (b : Int)) := by
    rw [show ss.mergeSort (fun x y => decide (x ≤ y)) = ss.mergeSort leI from rfl, mergeSort_of_perm_i (hS.trans hperm.symm)]
    refine List.mergeSort_of_pairwise ?_
    rw [List.pairwise_map]
    exact (ks_up f l).imp fun h => by simp; omega
  have hlen : ss.length = (ksN f l).length := by
    have := (hS.trans hperm.symm).length_eq; simpa using this
  refine ⟨v, rfl, ?_, kp_below hbelow (Nat.le_refl _)⟩
  rw [hs1, List.map_map, hlen] at hrow
  exact own_base hrow (by simp)
end Go.Proofs.Ytkhipbpjknfloaa
