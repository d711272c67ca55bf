/- The plain law of a set of words of bits, level by level (no program in sight). -/
import Derived.Lib.TrailingZeros
import Derived.Test.YtoiiofcpohoeaaaDoorRefFfs
namespace Go.Proofs.YtoiiofcpohoeaaaDoor

def bitAt (ws : List Nat) (i : Nat) : Bool := (ws.getD (i / 64) 0).testBit (i % 64)
def setB (ws : List Nat) (i : Nat) : List Nat := ws.set (i / 64) (ws.getD (i / 64) 0 ||| 2 ^ (i % 64))
def clrW (x b : Nat) : Nat := x ^^^ (x &&& 2 ^ b)
def clrB (ws : List Nat) (i : Nat) : List Nat := ws.set (i / 64) (clrW (ws.getD (i / 64) 0) (i % 64))

theorem clrW_bit (x b j : Nat) : (clrW x b).testBit j = (x.testBit j && decide (j ≠ b)) := by
  simp only [clrW, Nat.testBit_xor, Nat.testBit_and, Nat.testBit_two_pow]
  by_cases h : b = j
  · simp [h]
  · have h2 : j ≠ b := fun e => h e.symm
    simp [h, h2]
theorem clrW_le (x b : Nat) : clrW x b ≤ x := by
  have h : clrW x b &&& x = clrW x b := by
    apply Nat.eq_of_testBit_eq; intro i
    simp only [Nat.testBit_and, clrW_bit]
    cases x.testBit i <;> simp
  rw [← h]; exact Nat.and_le_right

theorem bit_setB (ws : List Nat) (i j : Nat) (hi : i / 64 < ws.length) : bitAt (setB ws i) j = (bitAt ws j || decide (j = i)) := by
  unfold bitAt setB
  by_cases h : j / 64 = i / 64
  · rw [h]
    have : ((ws.set (i / 64) (ws.getD (i / 64) 0 ||| 2 ^ (i % 64))).getD (i / 64) 0) = ws.getD (i / 64) 0 ||| 2 ^ (i % 64) := by
      simp [List.getD, hi]
    rw [this, Nat.testBit_or, Nat.testBit_two_pow]
    congr 1
    rw [decide_eq_decide]
    omega
  · have : ((ws.set (i / 64) (ws.getD (i / 64) 0 ||| 2 ^ (i % 64))).getD (j / 64) 0) = ws.getD (j / 64) 0 := by
      simp only [List.getD]; rw [List.getElem?_set_ne (fun e => h e.symm)]
    rw [this]
    have hne : decide (j = i) = false := by simp; rintro rfl; exact h rfl
    simp [hne]
theorem bit_clrB (ws : List Nat) (i j : Nat) : bitAt (clrB ws i) j = (bitAt ws j && decide (j ≠ i)) := by
  unfold bitAt clrB
  by_cases hi : i / 64 < ws.length
  · by_cases h : j / 64 = i / 64
    · rw [h]
      have : ((ws.set (i / 64) (clrW (ws.getD (i / 64) 0) (i % 64))).getD (i / 64) 0) = clrW (ws.getD (i / 64) 0) (i % 64) := by
        simp [List.getD, hi]
      rw [this, clrW_bit]
      congr 1
      rw [decide_eq_decide]
      omega
    · have : ((ws.set (i / 64) (clrW (ws.getD (i / 64) 0) (i % 64))).getD (j / 64) 0) = ws.getD (j / 64) 0 := by
        simp only [List.getD]; rw [List.getElem?_set_ne (fun e => h e.symm)]
      rw [this]
      have hne : decide (j ≠ i) = true := by simp; rintro rfl; exact h rfl
      simp [hne]
  · rw [List.set_eq_of_length_le (by omega)]
    by_cases h : j = i
    · subst h
      have : ws.getD (j / 64) 0 = 0 := by simp [List.getD, List.getElem?_eq_none (by omega : ws.length ≤ j / 64)]
      simp only [this]; simp
    · simp [h]

abbrev Lv := Nat → List Nat
def upd (L : Lv) (l : Nat) (ws : List Nat) : Lv := fun j => if j = l then ws else L j

/-- What is set upward from a level on. -/
def putUp (L : Lv) : Nat → Nat → Lv
  | 0, _ => L
  | l + 1, i => putUp (upd L l (setB (L l) i)) l (i / 64)
/-- What is cleared upward from a level on, up to the first word that is not empty. -/
def dropUp (L : Lv) : Nat → Nat → Lv
  | 0, _ => L
  | l + 1, i => let L1 := upd L l (clrB (L l) i); if (L1 l).getD (i / 64) 0 ≠ 0 then L1 else dropUp L1 l (i / 64)

theorem putUp_at (l : Nat) : ∀ (L : Lv) (i j : Nat), putUp L l i j = if j < l then setB (L j) (i / 64 ^ (l - 1 - j)) else L j := by
  induction l with
  | zero => intro L i j; simp [putUp]
  | succ l ih =>
    intro L i j
    rw [putUp, ih]
    by_cases h : j < l
    · rw [if_pos h, if_pos (by omega)]
      have h1 : upd L l (setB (L l) i) j = L j := by unfold upd; rw [if_neg (by omega)]
      rw [h1]
      have : 64 ^ (l + 1 - 1 - j) = 64 * 64 ^ (l - 1 - j) := by
        rw [← Nat.pow_succ']; congr 1; omega
      rw [this, Nat.div_div_eq_div_mul]
    · rw [if_neg h]
      by_cases h2 : j = l
      · subst h2
        rw [if_pos (by omega)]
        simp [upd]
      · rw [if_neg (by omega)]; unfold upd; rw [if_neg h2]

structure Ok (k : Nat) (L : Lv) (m : List Int) : Prop where
  k1 : 1 ≤ k
  len : ∀ j, j < k → (L j).length = 64 ^ j
  rng : ∀ j, j < k → ∀ x ∈ L j, x < 18446744073709551616
  leaf : ∀ i, i < 64 ^ k → bitAt (L (k - 1)) i = decide ((i : Int) ∈ m)
  up : ∀ j, j + 1 < k → ∀ i, i < 64 ^ (j + 1) → bitAt (L j) i = ((L (j + 1)).getD i 0 != 0)
  mem : ∀ z ∈ m, 0 ≤ z ∧ z < ((64 ^ k : Nat) : Int)
  sorted : m.Pairwise (· < ·)

theorem mem_putL (l : List Int) (x z : Int) : z ∈ putL l x ↔ z = x ∨ z ∈ l := by
  induction l with
  | nil => simp [putL]
  | cons y r ih =>
    unfold putL; split
    · simp
    · simp [ih]; constructor <;> (rintro (h | h | h) <;> simp [h])
theorem sorted_putL (l : List Int) (x : Int) (h : l.Pairwise (· < ·)) (hx : x ∉ l) : (putL l x).Pairwise (· < ·) := by
  induction l with
  | nil => simp [putL]
  | cons y r ih =>
    obtain ⟨h1, h2⟩ := List.pairwise_cons.1 h
    have hne : x ≠ y := fun e => hx (by simp [e])
    unfold putL; split
    · rename_i hxy
      refine List.pairwise_cons.2 ⟨fun z hz => ?_, h⟩
      rcases List.mem_cons.1 hz with rfl | hz
      · exact hxy
      · have := h1 z hz; omega
    · refine List.pairwise_cons.2 ⟨fun z hz => ?_, ih h2 (fun e => hx (by simp [e]))⟩
      rcases (mem_putL _ _ _).1 hz with rfl | hz
      · omega
      · exact h1 z hz
theorem sorted_dropL (l : List Int) (x : Int) (h : l.Pairwise (· < ·)) : (dropL l x).Pairwise (· < ·) := h.filter _
theorem mem_dropL (l : List Int) (x z : Int) : z ∈ dropL l x ↔ z ∈ l ∧ z ≠ x := by simp [dropL]

theorem word_ne (x : Nat) : (x != 0) = true ↔ ∃ b, x.testBit b = true := by
  constructor
  · intro h
    have : x ≠ 0 := by simpa using h
    exact Nat.exists_testBit_of_ne_zero this
  · rintro ⟨b, hb⟩
    have : x ≠ 0 := by rintro rfl; simp at hb
    simpa using this
theorem bit_lt (x b : Nat) (hx : x < 18446744073709551616) (h : x.testBit b = true) : b < 64 := by
  apply Nat.lt_of_not_le
  intro hle
  have : x < 2 ^ b := Nat.lt_of_lt_of_le hx (by have := Nat.pow_le_pow_right (n := 2) (by decide) hle; simpa using this)
  rw [Nat.testBit_lt_two_pow this] at h
  cases h
theorem getD_mem (l : List Nat) (i : Nat) (h : i < l.length) : l.getD i 0 ∈ l := by simp [List.getD, h]
/-- A word is not empty just if one of its bits is set. -/
theorem word_bits (ws : List Nat) (i : Nat) (hi : i < ws.length) (hr : ∀ x ∈ ws, x < 18446744073709551616) : (ws.getD i 0 != 0) = true ↔ ∃ b, b < 64 ∧ bitAt ws (64 * i + b) = true := by
  rw [word_ne]
  constructor
  · rintro ⟨b, hb⟩
    have hlt := bit_lt _ b (hr _ (getD_mem ws i hi)) hb
    exact ⟨b, hlt, by unfold bitAt; rw [show (64 * i + b) / 64 = i by omega, show (64 * i + b) % 64 = b by omega]; exact hb⟩
  · rintro ⟨b, hb, h⟩
    unfold bitAt at h; rw [show (64 * i + b) / 64 = i by omega, show (64 * i + b) % 64 = b by omega] at h
    exact ⟨b, h⟩

theorem set_rng (ws : List Nat) (i v : Nat) (hr : ∀ x ∈ ws, x < 18446744073709551616) (hv : v < 18446744073709551616) : ∀ x ∈ ws.set i v, x < 18446744073709551616 := by
  intro x hx
  rcases List.mem_or_eq_of_mem_set hx with h | h
  · exact hr x h
  · rw [h]; exact hv
theorem getD_rng (ws : List Nat) (i : Nat) (hr : ∀ x ∈ ws, x < 18446744073709551616) : ws.getD i 0 < 18446744073709551616 := by
  by_cases h : i < ws.length
  · exact hr _ (getD_mem ws i h)
  · simp [List.getD, List.getElem?_eq_none (by omega : ws.length ≤ i)]
theorem setB_rng (ws : List Nat) (i : Nat) (hr : ∀ x ∈ ws, x < 18446744073709551616) : ∀ x ∈ setB ws i, x < 18446744073709551616 := by
  refine set_rng _ _ _ hr ?_
  have h2 : 2 ^ (i % 64) < 2 ^ 64 := Nat.pow_lt_pow_right (by decide) (Nat.mod_lt _ (by decide))
  exact Nat.or_lt_two_pow (n := 64) (getD_rng ws _ hr) h2
theorem clrB_rng (ws : List Nat) (i : Nat) (hr : ∀ x ∈ ws, x < 18446744073709551616) : ∀ x ∈ clrB ws i, x < 18446744073709551616 :=
  set_rng _ _ _ hr (Nat.lt_of_le_of_lt (clrW_le _ _) (getD_rng ws _ hr))

theorem pow_split (j k : Nat) (h : j < k) : 64 ^ k = 64 ^ (j + 1) * 64 ^ (k - 1 - j) := by rw [← Nat.pow_add]; congr 1; omega
theorem div_lt (i j k : Nat) (hi : i < 64 ^ k) (h : j < k) : i / 64 ^ (k - 1 - j) < 64 ^ (j + 1) := by
  rw [Nat.div_lt_iff_lt_mul (Nat.pow_pos (by decide)), ← pow_split j k h]; exact hi
theorem div_step (i j k : Nat) (h : j + 1 < k) : i / 64 ^ (k - 1 - (j + 1)) / 64 = i / 64 ^ (k - 1 - j) := by
  rw [Nat.div_div_eq_div_mul, ← Nat.pow_succ]; congr 2; omega

/-- PUT. -/
theorem Ok.put {k : Nat} {L : Lv} {m : List Int} (h : Ok k L m) (i : Nat) (hi : i < 64 ^ k) (hn : (i : Int) ∉ m) : Ok k (putUp L k i) (putL m i) := by
  have k1 := h.k1
  have hat : ∀ j, j < k → putUp L k i j = setB (L j) (i / 64 ^ (k - 1 - j)) := fun j hj => by rw [putUp_at, if_pos hj]
  have hword : ∀ j, j < k → i / 64 ^ (k - 1 - j) / 64 < (L j).length := fun j hj => by
    rw [h.len j hj]
    have := div_lt i j k hi hj
    rw [Nat.pow_succ, Nat.mul_comm] at this
    omega
  refine ⟨k1, fun j hj => ?_, fun j hj => ?_, fun z hz => ?_, fun j hj z hz => ?_, fun z hz => ?_, sorted_putL _ _ h.sorted hn⟩
  · rw [hat j hj]; simp [setB, h.len j hj]
  · rw [hat j hj]; exact setB_rng _ _ (h.rng j hj)
  · rw [hat (k - 1) (by omega), bit_setB _ _ _ (hword (k - 1) (by omega)), h.leaf z hz]
    have e : i / 64 ^ (k - 1 - (k - 1)) = i := by simp
    rw [e]
    by_cases hzi : z = i
    · subst hzi; simp [mem_putL]
    · have : ¬ ((z : Int) = (i : Int)) := by omega
      simp [mem_putL, hzi, this]
  · rw [hat j (by omega), hat (j + 1) hj, bit_setB _ _ _ (hword j (by omega)), h.up j hj z hz, Bool.eq_iff_iff]
    have hl1 : z < (L (j + 1)).length := by rw [h.len _ hj]; exact hz
    rw [word_bits (setB _ _) z (by simp [setB]; exact hl1) (setB_rng _ _ (h.rng _ hj)), Bool.or_eq_true, word_bits _ z hl1 (h.rng _ hj)]
    simp only [bit_setB _ _ _ (hword (j + 1) hj), Bool.or_eq_true, decide_eq_true_eq]
    have hs := div_step i j k hj
    constructor
    · rintro (⟨b, hb, h⟩ | h)
      · exact ⟨b, hb, .inl h⟩
      · exact ⟨i / 64 ^ (k - 1 - (j + 1)) % 64, Nat.mod_lt _ (by decide), .inr (by rw [h, ← hs]; omega)⟩
    · rintro ⟨b, hb, h | h⟩
      · exact .inl ⟨b, hb, h⟩
      · exact .inr (by rw [← hs]; omega)
  · rcases (mem_putL _ _ _).1 hz with rfl | hz
    · omega
    · exact h.mem z hz

/-- What a clearing from level l on keeps to be shown: below the level the rest is right but for the word that may have become empty. -/
structure Mid (k l : Nat) (L : Lv) (m : List Int) (i : Nat) : Prop where
  len : ∀ j, j < k → (L j).length = 64 ^ j
  rng : ∀ j, j < k → ∀ x ∈ L j, x < 18446744073709551616
  leaf : ∀ z, z < 64 ^ k → (l = k → z ≠ i) → bitAt (L (k - 1)) z = decide ((z : Int) ∈ m)
  up : ∀ j, j + 1 < k → ∀ z, z < 64 ^ (j + 1) → (l = j + 1 → z ≠ i) → bitAt (L j) z = ((L (j + 1)).getD z 0 != 0)
  empty : l < k → (L l).getD i 0 = 0
  gone : l = k → (i : Int) ∉ m
  inn : i < 64 ^ l

theorem Mid.done {k l : Nat} (hl : l < k) : ∀ {L : Lv} {m : List Int} {i : Nat}, Mid k (l + 1) L m i →
    let L1 := upd L l (clrB (L l) i)
    ((L1 l).getD (i / 64) 0 ≠ 0 → (∀ j, j < k → (L1 j).length = 64 ^ j) ∧ (∀ j, j < k → ∀ x ∈ L1 j, x < 18446744073709551616) ∧ (∀ z, z < 64 ^ k → bitAt (L1 (k - 1)) z = decide ((z : Int) ∈ m)) ∧
      (∀ j, j + 1 < k → ∀ z, z < 64 ^ (j + 1) → bitAt (L1 j) z = ((L1 (j + 1)).getD z 0 != 0))) ∧
    ((L1 l).getD (i / 64) 0 = 0 → Mid k l L1 m (i / 64)) := by
  intro L m i h L1
  have hL1 : L1 l = clrB (L l) i := by simp [L1, upd]
  have hne : ∀ j, j ≠ l → L1 j = L j := fun j hj => by simp [L1, upd, hj]
  have hlen : ∀ j, j < k → (L1 j).length = 64 ^ j := fun j hj => by
    by_cases e : j = l
    · subst e; rw [hL1]; simp [clrB, h.len j hj]
    · rw [hne j e]; exact h.len j hj
  have hrng : ∀ j, j < k → ∀ x ∈ L1 j, x < 18446744073709551616 := fun j hj => by
    by_cases e : j = l
    · subst e; rw [hL1]; exact clrB_rng _ _ (h.rng j hj)
    · rw [hne j e]; exact h.rng j hj
  have hi := h.inn
  have hleaf : ∀ z, z < 64 ^ k → bitAt (L1 (k - 1)) z = decide ((z : Int) ∈ m) := fun z hz => by
    by_cases e : k - 1 = l
    · rw [e, hL1, bit_clrB]
      by_cases hzi : z = i
      · subst hzi; simp [h.gone (by omega)]
      · rw [← e, h.leaf z hz (fun _ => hzi)]; simp [hzi]
    · rw [hne _ e]; exact h.leaf z hz (fun e2 => by omega)
  have hup : ∀ j, j + 1 < k → ∀ z, z < 64 ^ (j + 1) → (l = j + 1 → z ≠ i / 64) → bitAt (L1 j) z = ((L1 (j + 1)).getD z 0 != 0) := fun j hj z hz hnz => by
    by_cases e : j = l
    · subst e
      rw [hL1, hne (j + 1) (by omega), bit_clrB]
      by_cases hzi : z = i
      · subst hzi; have := h.empty hj; rw [this]; simp
      · rw [h.up j hj z hz (fun _ => hzi)]; simp [hzi]
    · by_cases e1 : j + 1 = l
      · subst e1
        have hz2 := hnz rfl
        rw [hne j (by omega), hL1, h.up j hj z hz (fun e => by omega)]
        congr 1
        simp only [clrB, List.getD]; rw [List.getElem?_set_ne (fun e => hz2 e.symm)]
      · rw [hne j e, hne (j + 1) e1]; exact h.up j hj z hz (fun e => by omega)
  refine ⟨fun hw => ⟨hlen, hrng, hleaf, fun j hj z hz => ?_⟩, fun hw => ⟨hlen, hrng, fun z hz _ => hleaf z hz, hup, fun _ => hw, fun e => absurd e (by omega), by rw [Nat.pow_succ] at hi; omega⟩⟩
  by_cases e1 : j + 1 = l
  · by_cases hz2 : z = i / 64
    · subst hz2
      have h1 : (L1 (j + 1)).getD (i / 64) 0 ≠ 0 := by rw [e1]; exact hw
      have h0 : bitAt (L1 j) (i / 64) = true := by
        rw [hne j (by omega), h.up j hj _ hz (fun e => by omega)]
        have : (L (j + 1)).getD (i / 64) 0 ≠ 0 := by
          intro e0
          apply hw
          rw [hL1]
          have hlt : i / 64 < (L l).length := by rw [h.len l hl]; rw [Nat.pow_succ] at hi; omega
          rw [e1] at e0
          simp only [clrB, List.getD, List.getElem?_set_self hlt]
          simp only [List.getD] at e0
          simp [e0, clrW]
        simpa using this
      rw [h0]; symm; simpa using h1
    · exact hup j hj z hz (fun _ => hz2)
  · exact hup j hj z hz (fun e => absurd e.symm e1)

theorem dropUp_ok (k : Nat) (k1 : 1 ≤ k) : ∀ (l : Nat) (L : Lv) (m : List Int) (i : Nat), l ≤ k → Mid k l L m i →
    (∀ j, j < k → (dropUp L l i j).length = 64 ^ j) ∧ (∀ j, j < k → ∀ x ∈ dropUp L l i j, x < 18446744073709551616) ∧ (∀ z, z < 64 ^ k → bitAt (dropUp L l i (k - 1)) z = decide ((z : Int) ∈ m)) ∧
      (∀ j, j + 1 < k → ∀ z, z < 64 ^ (j + 1) → bitAt (dropUp L l i j) z = ((dropUp L l i (j + 1)).getD z 0 != 0)) := by
  intro l
  induction l with
  | zero =>
    intro L m i _ h
    exact ⟨h.len, h.rng, fun z hz => h.leaf z hz (fun e => by omega), fun j hj z hz => h.up j hj z hz (fun e => by omega)⟩
  | succ l ih =>
    intro L m i hl h
    obtain ⟨ha, hb⟩ := Mid.done (by omega) h
    unfold dropUp
    dsimp only at ha hb ⊢
    split
    · rename_i hw; exact ha hw
    · rename_i hw; exact ih _ _ _ (by omega) (hb (by simpa using hw))

/-- DROP. -/
theorem Ok.drop {k : Nat} {L : Lv} {m : List Int} (h : Ok k L m) (i : Nat) (hi : i < 64 ^ k) (_hn : (i : Int) ∈ m) : Ok k (dropUp L k i) (dropL m i) := by
  obtain ⟨a, b, c, d⟩ := dropUp_ok k h.k1 k L (dropL m i) i (Nat.le_refl _)
    ⟨h.len, h.rng, fun z hz hne => by
        have hzi := hne rfl
        have : ¬ ((z : Int) = (i : Int)) := by omega
        rw [h.leaf z hz]; simp [mem_dropL, this],
      fun j hj z hz _ => h.up j hj z hz, fun e => by omega, fun _ => by simp [mem_dropL], hi⟩
  exact ⟨h.k1, a, b, c, d, fun z hz => h.mem z ((mem_dropL _ _ _).1 hz).1, sorted_dropL _ _ h.sorted⟩

theorem ctz_spec (x : Nat) (h0 : x ≠ 0) (hx : x < 18446744073709551616) : Lib.ctz 64 x < 64 ∧ x.testBit (Lib.ctz 64 x) = true ∧ ∀ j, j < Lib.ctz 64 x → x.testBit j = false := by
  obtain ⟨m, hm, hk⟩ := Lib.ctzFrom_spec 64 x (by omega) hx
  have e : Lib.ctz 64 x = Lib.ctzFrom 64 x := by simp [Lib.ctz, h0]
  rw [e]
  generalize Lib.ctzFrom 64 x = c at *
  subst hm
  refine ⟨hk, ?_, fun j hj => ?_⟩
  · rw [Nat.mul_comm, Nat.testBit_mul_two_pow]; simp [Nat.testBit_zero]
  · rw [Nat.mul_comm, Nat.testBit_mul_two_pow]; simp; omega

/-- The first set bit at, or behind, a place. -/
def IsNext (f : Nat → Bool) (N i : Nat) (r : Int) : Prop :=
  (r = -1 ∧ ∀ z, i ≤ z → z < N → f z = false) ∨ (∃ a : Nat, r = a ∧ i ≤ a ∧ a < N ∧ f a = true ∧ ∀ z, i ≤ z → z < a → f z = false)

def aboveF (L : Lv) : Nat → Nat → Int
  | l, i => if 64 * (L l).length ≤ i then -1 else
    if (L l).getD (i / 64) 0 >>> (i % 64) ≠ 0 then (i : Int) + Lib.ctz 64 ((L l).getD (i / 64) 0 >>> (i % 64)) else
    match l with
    | 0 => -1
    | l' + 1 => if aboveF L l' (i / 64 + 1) < 0 then -1 else 64 * aboveF L l' (i / 64 + 1) + Lib.ctz 64 ((L (l' + 1)).getD (aboveF L l' (i / 64 + 1)).toNat 0)

theorem shr_bit (x s b : Nat) : (x >>> s).testBit b = x.testBit (s + b) := by rw [Nat.testBit_shiftRight]

theorem aboveF_ok {k : Nat} {L : Lv} (hlen : ∀ j, j < k → (L j).length = 64 ^ j) (hrng : ∀ j, j < k → ∀ x ∈ L j, x < 18446744073709551616)
    (hup : ∀ j, j + 1 < k → ∀ z, z < 64 ^ (j + 1) → bitAt (L j) z = ((L (j + 1)).getD z 0 != 0)) : ∀ (l i : Nat), l < k → IsNext (bitAt (L l)) (64 ^ (l + 1)) i (aboveF L l i) := by
  intro l
  induction l with
  | zero =>
    intro i hl
    have h1 := hlen 0 hl
    simp only [Nat.pow_zero] at h1
    unfold aboveF
    rw [h1]
    split
    · exact .inl ⟨rfl, fun z a b => by simp at b; omega⟩
    · rename_i hi
      have i0 : i / 64 = 0 := by omega
      have im : i % 64 = i := by omega
      rw [i0, im]
      have hx := getD_rng (L 0) 0 (hrng 0 hl)
      split
      · rename_i hw
        obtain ⟨c1, c2, c3⟩ := ctz_spec _ hw (Nat.lt_of_le_of_lt (Nat.shiftRight_le _ _) hx)
        generalize Lib.ctz 64 ((L 0).getD 0 0 >>> i) = c at *
        rw [shr_bit] at c2
        have hlt := bit_lt _ _ hx c2
        refine .inr ⟨i + c, by omega, by omega, by simp; omega, ?_, fun z a b => ?_⟩
        · unfold bitAt; rw [show (i + c) / 64 = 0 by omega, show (i + c) % 64 = i + c by omega]; exact c2
        · have := c3 (z - i) (by omega)
          rw [shr_bit, show i + (z - i) = z by omega] at this
          unfold bitAt; rw [show z / 64 = 0 by omega, show z % 64 = z by omega]; exact this
      · rename_i hw
        refine .inl ⟨rfl, fun z a b => ?_⟩
        have hw' : (L 0).getD 0 0 >>> i = 0 := by simpa using hw
        have : ((L 0).getD 0 0 >>> i).testBit (z - i) = false := by rw [hw']; simp
        rw [shr_bit, show i + (z - i) = z by omega] at this
        simp at b
        unfold bitAt; rw [show z / 64 = 0 by omega, show z % 64 = z by omega]; exact this
  | succ l ih =>
    intro i hl
    have h1 := hlen (l + 1) hl
    have hpow : 64 ^ (l + 1 + 1) = 64 * 64 ^ (l + 1) := by rw [Nat.pow_succ, Nat.mul_comm]
    have hrec := ih (i / 64 + 1) (by omega)
    unfold aboveF
    rw [h1, hpow]
    split
    · exact .inl ⟨rfl, fun z a b => by omega⟩
    · rename_i hi
      have hx := getD_rng (L (l + 1)) (i / 64) (hrng _ hl)
      split
      · rename_i hw
        obtain ⟨c1, c2, c3⟩ := ctz_spec _ hw (Nat.lt_of_le_of_lt (Nat.shiftRight_le _ _) hx)
        generalize Lib.ctz 64 ((L (l + 1)).getD (i / 64) 0 >>> (i % 64)) = c at *
        rw [shr_bit] at c2
        have hlt := bit_lt _ _ hx c2
        refine .inr ⟨i + c, by omega, by omega, by omega, ?_, fun z a b => ?_⟩
        · unfold bitAt; rw [show (i + c) / 64 = i / 64 by omega, show (i + c) % 64 = i % 64 + c by omega]; exact c2
        · have := c3 (z - i) (by omega)
          rw [shr_bit, show i % 64 + (z - i) = z % 64 by omega] at this
          unfold bitAt; rw [show z / 64 = i / 64 by omega]; exact this
      · rename_i hw
        have hw' : (L (l + 1)).getD (i / 64) 0 >>> (i % 64) = 0 := by simpa using hw
        have hsame : ∀ z, i ≤ z → z / 64 = i / 64 → bitAt (L (l + 1)) z = false := fun z a e => by
          have : ((L (l + 1)).getD (i / 64) 0 >>> (i % 64)).testBit (z - i) = false := by rw [hw']; simp
          rw [shr_bit, show i % 64 + (z - i) = z % 64 by omega] at this
          unfold bitAt; rw [e]; exact this
        have hword : ∀ z, z < 64 * 64 ^ (l + 1) → (L (l + 1)).getD (z / 64) 0 = 0 → bitAt (L (l + 1)) z = false := fun z b e => by unfold bitAt; rw [e]; simp
        rcases hrec with ⟨hr, hno⟩ | ⟨a, hr, ha1, ha2, ha3, ha4⟩
        · dsimp only
          rw [hr, if_pos (by omega)]
          refine .inl ⟨rfl, fun z a b => ?_⟩
          by_cases e : z / 64 = i / 64
          · exact hsame z a e
          · have := hno (z / 64) (by omega) (by omega)
            rw [hup l hl _ (by omega)] at this
            exact hword z b (by simpa using this)
        · dsimp only
          rw [hr, if_neg (by omega)]
          have hne : (L (l + 1)).getD a 0 ≠ 0 := by
            rw [hup l hl _ ha2] at ha3; simpa using ha3
          have hxa := getD_rng (L (l + 1)) a (hrng _ hl)
          obtain ⟨c1, c2, c3⟩ := ctz_spec _ hne hxa
          simp only [Int.toNat_natCast]
          generalize Lib.ctz 64 ((L (l + 1)).getD a 0) = c at *
          refine .inr ⟨64 * a + c, by omega, by omega, by omega, ?_, fun z b d => ?_⟩
          · unfold bitAt; rw [show (64 * a + c) / 64 = a by omega, show (64 * a + c) % 64 = c by omega]; exact c2
          · by_cases e : z / 64 = i / 64
            · exact hsame z b e
            · by_cases e2 : z / 64 = a
              · have := c3 (z % 64) (by omega)
                unfold bitAt; rw [e2]; exact this
              · have := ha4 (z / 64) (by omega) (by omega)
                rw [hup l hl _ (by omega)] at this
                exact hword z (by omega) (by simpa using this)

def nextL (m : List Int) (i : Int) : Int := (m.find? (fun y => decide (i ≤ y))).getD (-1)

/-- FROM. -/
theorem Ok.above {k : Nat} {L : Lv} {m : List Int} (h : Ok k L m) (i : Nat) : aboveF L (k - 1) i = nextL m i := by
  have k1 := h.k1
  have := aboveF_ok h.len h.rng h.up (k - 1) i (by omega)
  rw [show k - 1 + 1 = k by omega] at this
  unfold nextL
  cases hf : m.find? (fun y => decide ((i : Int) ≤ y)) with
  | none =>
    rcases this with ⟨hr, _⟩ | ⟨a, hr, ha1, ha2, ha3, _⟩
    · exact hr
    · rw [h.leaf a ha2] at ha3
      have := List.find?_eq_none.1 hf a (by simpa using ha3)
      simp at this; omega
  | some y =>
    obtain ⟨hy, l1, l2, hm, hall⟩ := List.find?_eq_some_iff_append.1 hf
    have hy' : (i : Int) ≤ y := by simpa using hy
    have hym : y ∈ m := by rw [hm]; simp
    obtain ⟨y0, y1⟩ := h.mem y hym
    obtain ⟨n, rfl⟩ : ∃ n : Nat, y = n := ⟨y.toNat, by omega⟩
    simp only [Option.getD_some]
    have hbit : bitAt (L (k - 1)) n = true := by rw [h.leaf n (by omega)]; simpa using hym
    rcases this with ⟨hr, hno⟩ | ⟨a, hr, ha1, ha2, ha3, ha4⟩
    · rw [hno n (by omega) (by omega)] at hbit; cases hbit
    · rw [hr]
      have h1 : ¬ n < a := fun e => by rw [ha4 n (by omega) e] at hbit; cases hbit
      have ham : (a : Int) ∈ m := by rw [h.leaf a ha2] at ha3; simpa using ha3
      have hs := h.sorted
      rw [hm] at ham hs
      rcases List.mem_append.1 ham with hin | hin
      · have := hall _ hin; simp at this; omega
      · rcases List.mem_cons.1 hin with e | hin
        · exact e
        · have := (List.pairwise_cons.1 (List.pairwise_append.1 hs).2.1).1 _ hin
          omega

end Go.Proofs.YtoiiofcpohoeaaaDoor
