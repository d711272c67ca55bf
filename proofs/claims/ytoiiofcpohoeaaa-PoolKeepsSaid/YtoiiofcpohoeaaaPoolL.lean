/- The law's example lives, and a pool that nobody made. -/
import Derived.Test.YtoiiofcpohoeaaaPoolYString
import Derived.Test.YtoiiofcpohoeaaaPoolNString
namespace Go.Proofs.Ytoiiofcpohoeaaa
open Go.RowKit

abbrev sA : ByteArray := ⟨#[97]⟩
abbrev sB : ByteArray := ⟨#[98]⟩
abbrev sC : ByteArray := ⟨#[99]⟩
def L0 : PS ByteArray := ⟨[], List.replicate 1 (-1, -1), 3, -1, 0⟩
def L1 : PS ByteArray := ⟨[⟨sA, -1, true, false⟩], List.replicate 1 (-1, -1), 3, -1, 1⟩
def L2 : PS ByteArray := ⟨[⟨sA, -1, true, false⟩, ⟨sB, -1, true, false⟩], List.replicate 1 (-1, -1), 3, -1, 2⟩
def L3 : PS ByteArray := ⟨[⟨ByteArray.empty, -1, false, false⟩, ⟨sB, -1, true, false⟩], List.replicate 1 (-1, -1), 3, 0, 1⟩
def L4 : PS ByteArray := ⟨[⟨sC, -1, true, false⟩, ⟨sB, -1, true, false⟩], List.replicate 1 (-1, -1), 3, -1, 2⟩
theorem l01 : L0.take sA = (L1, 0, true) := rfl
theorem l12 : L1.take sB = (L2, 1, true) := rfl
theorem l23 : L2.give ByteArray.empty 0 = (L3, sA, 0) := rfl
theorem l34 : L3.take sC = (L4, 0, true) := rfl

set_option maxHeartbeats 1000000 in
theorem pLives (w : World) : Calls Try.prog 6 #[] w fun e w' => e = .returned (.bool true) ∧ Kp none' w w' := by
  have hN := Lib.hid (poolString.pNew 3 1 w (by omega) (by omega) (by omega))
  go_enter Try.func6, Try.ntmps6
  go_wp2_with fail
  refine (hN.out).mono ?_
  rintro e w1 ⟨p, bq, rfl, h1, k1⟩
  have t1 := Lib.hid (poolString.pTake w1 w.heap.size p bq _ L0 sA h1 (by decide) k1.size (by decide) (by decide) (by decide))
  rw [l01] at t1
  have H1 := Lib.hid h1; have K1 := Lib.hid k1; clear h1 k1 hN
  go_wp2_with fail
  refine (t1.out).mono ?_
  rintro e w2 ⟨rfl, v2, h2, k2⟩
  replace k2 := poolString.PMem.thru H1.out K1.out k2
  have t2 := Lib.hid (poolString.pTake w2 w.heap.size p bq _ L1 sB h2 (by decide) k2.size (by decide) (by decide) (by decide))
  rw [l12] at t2
  have H2 := Lib.hid h2; have K2 := Lib.hid k2; clear h2 k2 t1 H1 K1
  go_wp2_with fail
  refine (t2.out).mono ?_
  rintro e w3 ⟨rfl, v3, h3, k3⟩
  replace k3 := poolString.PMem.thru H2.out K2.out k3
  have t3 := Lib.hid (poolString.pGive w3 w.heap.size p bq _ L2 h3 0 (by decide) k3.size (by decide) (by decide))
  simp only [poolString.zx, l23] at t3
  have H3 := Lib.hid h3; have K3 := Lib.hid k3; clear h3 k3 t2 H2 K2
  go_wp2_with fail
  refine (t3.out).mono ?_
  rintro e w4 ⟨rfl, v4, h4, k4⟩
  replace k4 := poolString.PMem.thru H3.out K3.out k4
  have t4 := Lib.hid (poolString.pTake w4 w.heap.size p bq _ L3 sC h4 (by decide) k4.size (by decide) (by decide) (by decide))
  rw [l34] at t4
  have H4 := Lib.hid h4; have K4 := Lib.hid k4; clear h4 k4 t3 H3 K3
  go_wp2_with fail
  refine (t4.out).mono ?_
  rintro e w5 ⟨rfl, v5, h5, k5⟩
  replace k5 := poolString.PMem.thru H4.out K4.out k5
  have t5 := Lib.hid (poolString.pLen w5 w.heap.size p bq _ L4 h5)
  have H5 := Lib.hid h5; have K5 := Lib.hid k5; clear h5 k5 t4 H4 K4
  have hss : (sA == sA) = true := by decide
  go_wp2_with fail
  refine (t5.out).mono ?_
  rintro e w6 ⟨rfl, rfl⟩
  go_wp2
  go_ret
  exact ⟨rfl, K5.out⟩

end Go.Proofs.Ytoiiofcpohoeaaa
