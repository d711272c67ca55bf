/- Walks of layer 1, the document's: wide numbers taken away, as numbers. -/
import Derived.Test.YthjapdjglifopaaWideM
import Derived.Test.YthjapdjglifopaaWideP
namespace Go.Proofs.Ythjapdjglifopaa
set_option linter.unusedVariables false
set_option linter.unusedSimpArgs false
open Go.RowKit Go.Shelf

theorem rMinusN (m n : Nat) (hm : m < 340282366920938463463374607431768211456) (hn : n ≤ m) (w : World) : Calls Try.prog 47 #[.agg (wN m).toArray, .agg (wN n).toArray] w fun e w' => e = .returned (.agg (wN (m - n)).toArray) ∧ Kp none' w w' := by
  obtain ⟨m0, m1, m2, m3, em, a0, a1, a2, a3⟩ := pieces m hm
  obtain ⟨n0, n1, n2, n3, en, b0, b1, b2, b3⟩ := pieces n (by omega)
  rw [wN_pieces m m0 m1 m2 m3 em a0 a1 a2 a3, wN_pieces n n0 n1 n2 n3 en b0 b1 b2 b3]
  obtain ⟨k0, c0, d0, p0, f0, s0, g0, h0⟩ := bor m0 n0 0 a0 b0 (by omega)
  obtain ⟨k1, c1, d1, p1, f1, s1, g1, h1⟩ := bor m1 n1 d0 a1 b1 p0
  obtain ⟨k2, c2, d2, p2, f2, s2, g2, h2⟩ := bor m2 n2 d1 a2 b2 p1
  obtain ⟨k3, c3, d3, p3, f3, s3, g3, h3⟩ := bor m3 n3 d2 a3 b3 p2
  have hall := bor_all m0 m1 m2 m3 n0 n1 n2 n3 c0 c1 c2 c3 d0 d1 d2 d3 h0 h1 h2 h3
  rw [← em, ← en] at hall
  have hcb : c0 + c1 * 4294967296 + c2 * 18446744073709551616 + c3 * 79228162514264337593543950336 < 340282366920938463463374607431768211456 := by
    clear hall h0 h1 h2 h3 em en; omega
  generalize hc : c0 + c1 * 4294967296 + c2 * 18446744073709551616 + c3 * 79228162514264337593543950336 = c at *
  have hd : m - n = c := by
    clear em en h0 h1 h2 h3 hc; omega
  rw [hd, wN_pieces c c0 c1 c2 c3 hc.symm g0 g1 g2 g3]
  exact rMinus m0 m1 m2 m3 n0 n1 n2 n3 k0 c0 k1 c1 k2 c2 k3 c3 w f0 f1 f2 f3 (borQ0 m0 n0 k0 c0 d0 s0 g0 h0) (borQ m1 n1 d0 k1 c1 d1 k0 s0 s1 g1 h1) (borQ m2 n2 d1 k2 c2 d2 k1 s1 s2 g2 h2) (borQ m3 n3 d2 k3 c3 d3 k2 s2 s3 g3 h3) a0 a1 a2 a3 b0 b1 b2 b3
end Go.Proofs.Ythjapdjglifopaa
