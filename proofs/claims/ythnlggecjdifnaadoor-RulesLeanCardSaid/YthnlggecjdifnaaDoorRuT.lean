/- The trie of layer 32 in memory; which kid; looked up by an address. -/
import Derived.Test.YthnlggecjdifnaaDoorRuTr
import Derived.Test.YthnlggecjdifnaaDoorAddrW
import Derived.Test.YthnlggecjdifnaaDoorOwn
import Derived.Test.YthnlggecjdifnaaDoorKept
import Derived.Shelf.Spec.TrailingZeros
namespace Go.Proofs.YthnlggecjdifnaaDoor
set_option linter.unusedVariables false
set_option linter.unusedSimpArgs false
open Go.RowKit

def Tr.ptr : Tr → Value
  | .nil => .pointer none
  | .node b _ _ _ _ _ => .pointer (some ⟨b, 0, none⟩)
def enNd (p : Px) (u : Bool) (x : Nat) (l r : Tr) : List Value := [.int .u32 p.1, .int .i64 p.2, .bool u, .int .u64 x, l.ptr, r.ptr]
def TrM (w : World) : Tr → Prop
  | .nil => True
  | .node b p u x l r => Blk w b (enNd p u x l r) 90 ∧ TrM w l ∧ TrM w r
theorem TrM.kp {S : Nat → Prop} {w w' : World} {t : Tr} (h : TrM w t) (k : Kp S w w') (hS : ∀ b ∈ t.blks, ¬ S b) : TrM w' t := by
  induction t with
  | nil => trivial
  | node b p u x l r hl hr =>
    obtain ⟨h1, h2, h3⟩ := h
    exact ⟨h1.kp k (hS b (by simp [Tr.blks])), hl h2 (fun b' hb => hS b' (by simp [Tr.blks, hb])), hr h3 (fun b' hb => hS b' (by simp [Tr.blks, hb]))⟩
theorem TrM.old {w w' : World} {t : Tr} (h : TrM w t) (k : Kp none' w w') : TrM w' t := h.kp k (fun _ _ x => x)
set_option maxRecDepth 100000 in
set_option maxHeartbeats 1000000 in
theorem tSide (w : World) (b : Nat) (p : Px) (c : w.cell? ⟨b, 1, none⟩ = some (.int .i64 p.2)) (h31 : p.2 ≤ 31) (a : Nat) (ha : a < 4294967296) :
    Calls Tryd.prog 47 #[.pointer (some ⟨b, 0, none⟩), .int .u32 a] w fun e w' => e = .returned (.int .i64 (sideN p a : Nat)) ∧ w = w' := by
  obtain ⟨k, hk⟩ : ∃ k, 31 - p.2 = k := ⟨_, rfl⟩
  have hki : (31 : Int) - (p.2 : Int) = (k : Int) := by omega
  have hs : sideN p a = a / 2 ^ k % 2 := by unfold sideN; rw [hk]
  rw [hs]
  obtain ⟨q, hq⟩ : ∃ q, a / 2 ^ k = q := ⟨_, rfl⟩
  rw [hq]
  have hql : q < 4294967296 := by rw [← hq]; exact Nat.lt_of_le_of_lt (Nat.div_le_self _ _) ha
  have hqi : (a : Int) / 2 ^ k = (q : Int) := by rw [← hq]; push_cast; rfl
  have hk32 : k ≤ 31 := by omega
  obtain ⟨n, hn⟩ : ∃ n, p.2 = n := ⟨_, rfl⟩
  rw [hn] at c hki
  obtain ⟨s, hsq⟩ : ∃ s, q % 2 = s := ⟨_, rfl⟩
  have hs1 : s ≤ 1 := by omega
  have hband : bits .and .u32 (q : Int) 1 = (s : Int) := by
    have := bits_and_u32_nat q 1 hql (by omega)
    rw [Nat.and_one_is_mod, hsq] at this
    exact this
  rw [hsq]
  clear hs hk hq hn h31 hsq
  go_enter Tryd.func47, Tryd.ntmps47
  go_wp2
  go_ret
  exact ⟨rfl, rfl⟩
end Go.Proofs.YthnlggecjdifnaaDoor
