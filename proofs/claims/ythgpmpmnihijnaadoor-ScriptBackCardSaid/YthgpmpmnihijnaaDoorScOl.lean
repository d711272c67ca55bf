/- What a line's words say: both walks, whatever the words. -/
import Derived.Test.YthgpmpmnihijnaaDoorScRk
namespace Go.Proofs.YthgpmpmnihijnaaDoor
set_option linter.unusedVariables false
set_option linter.unusedSimpArgs false
open Go.RowKit Go.Shelf

theorem oneCases {P : List ByteArray → OpR × Int → Prop} (x : ByteArray) (r : List ByteArray)
    (hNo : ∀ k m, kd (bl x) = (k, m) → (k < 0 ∨ r.length ≠ m) → m ≤ 3 → P (x :: r) (z5, 31))
    (h1 : ∀ a b c, r = [a, b, c] → kd (bl x) = (1, 3) → P (x :: r) (oneL ((x :: r).map bl))) (h2 : r = [] → kd (bl x) = (2, 0) → P (x :: r) (oneL ((x :: r).map bl)))
    (h3 : ∀ a, r = [a] → kd (bl x) = (3, 1) → P (x :: r) (oneL ((x :: r).map bl))) (h4 : r = [] → kd (bl x) = (4, 0) → P (x :: r) (oneL ((x :: r).map bl)))
    (h0 : ∀ a, r = [a] → kd (bl x) = (0, 1) → P (x :: r) (oneL ((x :: r).map bl))) : P (x :: r) (oneL ((x :: r).map bl)) := by
  have no : ∀ k m, kd (bl x) = (k, m) → (k < 0 ∨ r.length ≠ m) → m ≤ 3 → P (x :: r) (oneL ((x :: r).map bl)) := fun k m hk h hm => by
    rw [oneL_no (l := (x :: r).map bl) hk (by rcases h with h | h; exact .inl h; exact .inr (by simp; exact h))]
    exact hNo k m hk h hm
  rcases kd_cases (bl x) with ⟨_, e⟩ | ⟨_, e⟩ | ⟨_, e⟩ | ⟨_, e⟩ | ⟨_, e⟩ | ⟨_, _, _, _, _, e⟩
  · by_cases hl : r.length = 3
    · match r, hl with
      | [a, b, c], _ => exact h1 a b c rfl e
    · exact no _ _ e (.inr hl) (by decide)
  · by_cases hl : r.length = 0
    · match r, hl with
      | [], _ => exact h2 rfl e
    · exact no _ _ e (.inr hl) (by decide)
  · by_cases hl : r.length = 1
    · match r, hl with
      | [a], _ => exact h3 a rfl e
    · exact no _ _ e (.inr hl) (by decide)
  · by_cases hl : r.length = 0
    · match r, hl with
      | [], _ => exact h4 rfl e
    · exact no _ _ e (.inr hl) (by decide)
  · by_cases hl : r.length = 1
    · match r, hl with
      | [a], _ => exact h0 a rfl e
    · exact no _ _ e (.inr hl) (by decide)
  · exact no _ _ e (.inl (by decide)) (by decide)

theorem sOne (x : ByteArray) (r : List ByteArray) (g off cap : Nat) (w : World) (h : Sl w (.slice (some ⟨g, off, none⟩) (r.length + 1) cap) (r.length + 1) 1 (strs (x :: r))) (hcap : r.length + 1 ≤ cap) (hcm : cap ≤ 9223372036854775807) (hsz : ∀ y ∈ r, y.size ≤ 1000000) (hrl : r.length < 1000000) :
    Calls Tryd.prog 14 #[.slice (some ⟨g, off, none⟩) (r.length + 1 : Nat) cap] w fun e w' => e = .returned (.tuple #[.agg (enO (oneL ((x :: r).map bl)).1).toArray, .int .i64 (oneL ((x :: r).map bl)).2]) ∧ Kp none' w w' := by
  refine oneCases (P := fun l o => Calls Tryd.prog 14 #[.slice (some ⟨g, off, none⟩) (r.length + 1 : Nat) cap] w fun e w' => e = .returned (.tuple #[.agg (enO o.1).toArray, .int .i64 o.2]) ∧ Kp none' w w') x r ?_ ?_ ?_ ?_ ?_ ?_
  · intro k m hk hno hm
    exact sOneNo x r g off cap w h k m hk hno hrl hm
  · rintro a b c rfl hk
    exact sOneIn x a b c g off cap w h hk hcap hcm (hsz a (by simp)) (hsz b (by simp)) (hsz c (by simp))
  · rintro rfl hk
    exact sOneOut x g off cap w h hk hcap hcm
  · rintro a rfl hk
    exact sOneTick x a g off cap w h hk hcap hcm (hsz a (by simp))
  · rintro rfl hk
    exact sOneStats x g off cap w h hk hcap hcm
  · rintro a rfl hk
    exact sOneJunk x a g off cap w h hk hcap hcm (hsz a (by simp))
theorem rOne (x : ByteArray) (r : List ByteArray) (g off cap : Nat) (w : World) (h : Sl w (.slice (some ⟨g, off, none⟩) (r.length + 1) cap) (r.length + 1) 1 (strs (x :: r))) (hsz : ∀ y ∈ r, y.size ≤ 1000000) (hrl : r.length < 1000000) :
    Calls Tryd.prog 17 #[.slice (some ⟨g, off, none⟩) (r.length + 1 : Nat) cap] w fun e w' => e = .returned (.tuple #[.agg (enO (oneL ((x :: r).map bl)).1).toArray, .int .i64 (oneL ((x :: r).map bl)).2]) ∧ Kp none' w w' := by
  refine oneCases (P := fun l o => Calls Tryd.prog 17 #[.slice (some ⟨g, off, none⟩) (r.length + 1 : Nat) cap] w fun e w' => e = .returned (.tuple #[.agg (enO o.1).toArray, .int .i64 o.2]) ∧ Kp none' w w') x r ?_ ?_ ?_ ?_ ?_ ?_
  · intro k m hk hno hm
    exact rOneNo x r g off cap w h k m hk hno hrl hm
  · rintro a b c rfl hk
    exact rOneIn x a b c g off cap w h hk (hsz a (by simp)) (hsz b (by simp)) (hsz c (by simp))
  · rintro rfl hk
    exact rOneOut x g off cap w h hk
  · rintro a rfl hk
    exact rOneTick x a g off cap w h hk (hsz a (by simp))
  · rintro rfl hk
    exact rOneStats x g off cap w h hk
  · rintro a rfl hk
    exact rOneJunk x a g off cap w h hk (hsz a (by simp))
end Go.Proofs.YthgpmpmnihijnaaDoor
