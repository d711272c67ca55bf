/- Plain laws of layers 4, 5 and 39: numbers in bytes, the sum of bytes, records. Names no function of the program. -/
import Derived.Test.YthjapdjglifopaaStr
namespace Go.Proofs.Ythjapdjglifopaa
set_option linter.unusedVariables false
set_option linter.unusedSimpArgs false

theorem snocT {α : Type} {P : List α → Prop} (h0 : P []) (hs : ∀ l c, P l → P (l ++ [c])) (l : List α) : P l := by
  have h : ∀ r : List α, P r.reverse := by
    intro r
    induction r with
    | nil => exact h0
    | cons c r ih => rw [List.reverse_cons]; exact hs _ _ ih
  have := h l.reverse
  rwa [List.reverse_reverse] at this

/-- A number in w bytes, the highest first. -/
def be : Nat → Nat → List UInt8
  | 0, _ => []
  | w + 1, n => be w (n / 256) ++ [UInt8.ofNat (n % 256)]
def num (l : List UInt8) : Nat := l.foldl (fun n c => n * 256 + c.toNat) 0
theorem be_len (w : Nat) : ∀ n, (be w n).length = w := by
  induction w with
  | zero => intro n; rfl
  | succ w ih => intro n; simp [be, ih]
theorem num_snoc (l : List UInt8) (c : UInt8) : num (l ++ [c]) = num l * 256 + c.toNat := by simp [num]
theorem num_lt (l : List UInt8) : num l < 256 ^ l.length := by
  refine snocT (P := fun l => num l < 256 ^ l.length) (by simp [num]) (fun l c ih => ?_) l
  rw [num_snoc, List.length_append]
  have := UInt8.toNat_lt c
  simp only [List.length_cons, List.length_nil, Nat.pow_add, Nat.pow_one, Nat.zero_add]
  omega
theorem be_num (l : List UInt8) : be l.length (num l) = l := by
  refine snocT (P := fun l => be l.length (num l) = l) rfl (fun l c ih => ?_) l
  rw [num_snoc, List.length_append]
  have h := UInt8.toNat_lt c
  have e1 : (num l * 256 + c.toNat) / 256 = num l := by omega
  have e2 : (num l * 256 + c.toNat) % 256 = c.toNat := by omega
  show be (l.length + 1) _ = _
  rw [be, e1, e2, ih]; simp
theorem num_be (w : Nat) : ∀ n, n < 256 ^ w → num (be w n) = n := by
  induction w with
  | zero => intro n h; simp at h; subst h; rfl
  | succ w ih =>
    intro n h
    rw [Nat.pow_succ] at h
    rw [be, num_snoc, ih (n / 256) (by omega)]
    have : (UInt8.ofNat (n % 256)).toNat = n % 256 := by simp
    omega

/-- The sum of bytes: one step, all, as one number. -/
def ad (p : Nat × Nat) (c : UInt8) : Nat × Nat := ((p.1 + c.toNat) % 65521, (p.2 + (p.1 + c.toNat) % 65521) % 65521)
def adl (p : Nat × Nat) (l : List UInt8) : Nat × Nat := l.foldl ad p
theorem adl_snoc (p : Nat × Nat) (l : List UInt8) (c : UInt8) : adl p (l ++ [c]) = ad (adl p l) c := by simp [adl]
def sumN (l : List UInt8) : Nat := (adl (1, 0) l).2 * 65536 + (adl (1, 0) l).1
def sealL (l : List UInt8) : List UInt8 := l ++ be 4 (sumN l)
theorem seal_len (l : List UInt8) : (sealL l).length = l.length + 4 := by simp [sealL, be_len]
theorem adl_lt (l : List UInt8) : (adl (1, 0) l).1 < 65521 ∧ (adl (1, 0) l).2 < 65521 := by
  refine snocT (P := fun l => (adl (1, 0) l).1 < 65521 ∧ (adl (1, 0) l).2 < 65521) (by simp [adl]) (fun l c ih => ?_) l
  rw [adl_snoc]; unfold ad
  exact ⟨Nat.mod_lt _ (by decide), Nat.mod_lt _ (by decide)⟩
theorem sumN_lt (l : List UInt8) : sumN l < 4294967296 := by
  have := adl_lt l
  unfold sumN; omega
def tot (l : List UInt8) : Nat := (l.map UInt8.toNat).sum
theorem adl_low (l : List UInt8) : (adl (1, 0) l).1 = (1 + tot l) % 65521 := by
  refine snocT (P := fun l => (adl (1, 0) l).1 = (1 + tot l) % 65521) (by simp [adl, tot]) (fun l c ih => ?_) l
  rw [adl_snoc]; unfold ad
  simp only [ih]
  simp only [tot, List.map_append, List.sum_append, List.map_cons, List.map_nil, List.sum_cons, List.sum_nil]
  omega

structure Rec where
  t : Nat
  kind : Int
  flow : Nat
  id : Nat
  len : Nat
  code : Int
theorem Rec.ext' {a b : Rec} (h1 : a.t = b.t) (h2 : a.kind = b.kind) (h3 : a.flow = b.flow) (h4 : a.id = b.id) (h5 : a.len = b.len) (h6 : a.code = b.code) : a = b := by
  cases a; cases b; simp_all
def rightB (r : Rec) : Bool := decide (0 ≤ r.kind ∧ r.kind ≤ 5 ∧ 0 ≤ r.code ∧ r.code ≤ 31)
theorem right_iff {r : Rec} : rightB r = true ↔ 0 ≤ r.kind ∧ r.kind ≤ 5 ∧ 0 ≤ r.code ∧ r.code ≤ 31 := by unfold rightB; simp
/-- The numbers are of their sizes. -/
structure Rec.fit (r : Rec) : Prop where
  t : r.t < 18446744073709551616
  flow : r.flow < 4294967296
  id : r.id < 4294967296
  len : r.len < 18446744073709551616
def body (r : Rec) : List UInt8 := be 8 r.t ++ (be 1 r.kind.toNat ++ (be 4 r.flow ++ (be 4 r.id ++ (be 8 r.len ++ be 1 r.code.toNat))))
theorem body_len (r : Rec) : (body r).length = 26 := by simp [body, be_len]
def bytesR (r : Rec) : List UInt8 := sealL (body r)
theorem bytes_len (r : Rec) : (bytesR r).length = 30 := by rw [bytesR, seal_len, body_len]
def parseR (s : List UInt8) : Rec := ⟨num (s.take 8), num ((s.drop 8).take 1), num ((s.drop 9).take 4), num ((s.drop 13).take 4), num ((s.drop 17).take 8), num ((s.drop 25).take 1)⟩
def goodB (s : List UInt8) : Bool := decide (sealL (s.take 26) = s) && rightB (parseR s)
theorem good_iff {s : List UInt8} : goodB s = true ↔ sealL (s.take 26) = s ∧ rightB (parseR s) = true := by unfold goodB; simp
theorem good_not {s : List UInt8} : goodB s = false ↔ ¬ (sealL (s.take 26) = s ∧ rightB (parseR s) = true) := by rw [← good_iff]; simp

theorem parse_body (r : Rec) (hf : r.fit) (hr : rightB r = true) (x : List UInt8) : parseR (body r ++ x) = r := by
  obtain ⟨h1, h2, h3, h4⟩ := right_iff.1 hr
  have g8 : (be 8 r.t ++ (be 1 r.kind.toNat ++ (be 4 r.flow ++ (be 4 r.id ++ (be 8 r.len ++ be 1 r.code.toNat)))) ++ x) = be 8 r.t ++ (be 1 r.kind.toNat ++ (be 4 r.flow ++ (be 4 r.id ++ (be 8 r.len ++ (be 1 r.code.toNat ++ x))))) := by simp
  have d8 : ∀ (a b : List UInt8) (k : Nat), a.length = k → (a ++ b).drop k = b := fun a b k h => by subst h; simp
  have t8 : ∀ (a b : List UInt8) (k : Nat), a.length = k → (a ++ b).take k = a := fun a b k h => by subst h; simp
  unfold body
  rw [g8]
  generalize hy : be 1 r.code.toNat ++ x = y
  have e1 : ∀ s : List UInt8, s.drop 9 = (s.drop 8).drop 1 := fun s => by rw [List.drop_drop]
  have e2 : ∀ s : List UInt8, s.drop 13 = ((s.drop 8).drop 1).drop 4 := fun s => by rw [List.drop_drop, List.drop_drop]
  have e3 : ∀ s : List UInt8, s.drop 17 = (((s.drop 8).drop 1).drop 4).drop 4 := fun s => by rw [List.drop_drop, List.drop_drop, List.drop_drop]
  have e4 : ∀ s : List UInt8, s.drop 25 = ((((s.drop 8).drop 1).drop 4).drop 4).drop 8 := fun s => by rw [List.drop_drop, List.drop_drop, List.drop_drop, List.drop_drop]
  unfold parseR
  rw [e1, e2, e3, e4, d8 _ _ 8 (be_len 8 _), d8 _ _ 1 (be_len 1 _), d8 _ _ 4 (be_len 4 _), d8 _ _ 4 (be_len 4 _), d8 _ _ 8 (be_len 8 _),
    t8 _ _ 8 (be_len 8 _), t8 _ _ 1 (be_len 1 _), t8 _ _ 4 (be_len 4 _), t8 _ _ 4 (be_len 4 _), t8 _ _ 8 (be_len 8 _), ← hy, t8 _ _ 1 (be_len 1 _)]
  rw [num_be 8 _ (by have := hf.t; simpa using this), num_be 4 _ (by have := hf.flow; simpa using this), num_be 4 _ (by have := hf.id; simpa using this), num_be 8 _ (by have := hf.len; simpa using this), num_be 1 _ (by simp; omega), num_be 1 _ (by simp; omega)]
  exact Rec.ext' rfl (by simp only; omega) rfl rfl rfl (by simp only; omega)
theorem bytes_good (r : Rec) (hf : r.fit) (hr : rightB r = true) : goodB (bytesR r) = true ∧ parseR (bytesR r) = r := by
  have h1 : parseR (bytesR r) = r := parse_body r hf hr _
  refine ⟨good_iff.2 ⟨?_, by rw [h1]; exact hr⟩, h1⟩
  have : (bytesR r).take 26 = body r := by
    unfold bytesR sealL
    rw [List.take_append_of_le_length (by rw [body_len]; omega), ← body_len r, List.take_length]
  rw [this]; rfl

/-- The i-th thirty bytes of a text. -/
def piece (s : List UInt8) (i : Nat) : List UInt8 := (s.drop (30 * i)).take 30
structure RT (s : List UInt8) (l : List Rec) : Prop where
  len : 30 * l.length ≤ s.length
  is : ∀ j (h : j < l.length), goodB (piece s j) = true ∧ parseR (piece s j) = l[j]
structure Reads (s : List UInt8) (l : List Rec) : Prop where
  to : RT s l
  no : s.length < 30 * (l.length + 1) ∨ goodB (piece s l.length) = false
theorem RT.nil (s : List UInt8) : RT s [] := ⟨by simp, fun j h => by simp at h⟩
theorem RT.snoc {s : List UInt8} {l : List Rec} (h : RT s l) (hl : 30 * (l.length + 1) ≤ s.length) (hg : goodB (piece s l.length) = true) : RT s (l ++ [parseR (piece s l.length)]) := by
  refine ⟨by simpa using hl, fun j hj => ?_⟩
  by_cases e : j < l.length
  · rw [List.getElem_append_left e]; exact h.is j e
  · have : j = l.length := by simp at hj; omega
    subst this
    simp [hg]
theorem Reads.uniq {s : List UInt8} {l m : List Rec} (h : Reads s l) (k : Reads s m) : l = m := by
  have key : ∀ {l m : List Rec}, Reads s l → Reads s m → ¬ l.length < m.length := fun {l m} h k e => by
    have h1 := k.to.is _ e
    have h2 := k.to.len
    rcases h.no with h3 | h3
    · omega
    · rw [h1.1] at h3; cases h3
  have hl : l.length = m.length := by
    have h1 := key h k
    have h2 := key k h
    omega
  apply List.ext_getElem hl
  intro j h1 h2
  rw [← (h.to.is j h1).2, (k.to.is j h2).2]

def flatR (l : List Rec) : List UInt8 := (l.map bytesR).flatten
theorem flatR_nil : flatR [] = [] := rfl
theorem flatR_snoc (l : List Rec) (r : Rec) : flatR (l ++ [r]) = flatR l ++ bytesR r := by simp [flatR]
theorem flatR_len (l : List Rec) : (flatR l).length = 30 * l.length := by
  refine snocT (P := fun l => (flatR l).length = 30 * l.length) rfl (fun l c ih => ?_) l
  rw [flatR_snoc, List.length_append, ih, bytes_len]; simp; omega
theorem flatR_take (l : List Rec) (j : Nat) (h : j ≤ l.length) : (flatR l).take (30 * j) = flatR (l.take j) := by
  have e : flatR l = flatR (l.take j) ++ flatR (l.drop j) := by
    conv => lhs; rw [← List.take_append_drop j l]
    unfold flatR; rw [List.map_append, List.flatten_append]
  rw [e, List.take_append_of_le_length (by rw [flatR_len, List.length_take]; omega), List.take_of_length_le (by rw [flatR_len, List.length_take]; omega)]
theorem flatR_piece (l : List Rec) (x : List UInt8) (j : Nat) (h : j < l.length) : piece (flatR l ++ x) j = bytesR l[j] := by
  have e : flatR l ++ x = flatR (l.take j) ++ (bytesR l[j] ++ (flatR (l.drop (j + 1)) ++ x)) := by
    have : l = l.take j ++ (l[j] :: l.drop (j + 1)) := by rw [← List.drop_eq_getElem_cons h, List.take_append_drop]
    have e2 : flatR l = flatR (l.take j) ++ (bytesR l[j] ++ flatR (l.drop (j + 1))) := by
      conv => lhs; rw [this]
      unfold flatR; rw [List.map_append, List.flatten_append, List.map_cons, List.flatten_cons]
    rw [e2, List.append_assoc, List.append_assoc]
  have hl : (flatR (l.take j)).length = 30 * j := by rw [flatR_len, List.length_take]; congr 1; omega
  unfold piece
  rw [e, ← hl, List.drop_left, ← bytes_len l[j], List.take_left]
/-- Records that can be put. -/
def Fit (l : List Rec) : Prop := ∀ r ∈ l, r.fit ∧ rightB r = true
theorem piece_take (s : List UInt8) (k j : Nat) (h : 30 * (j + 1) ≤ k) : piece (s.take k) j = piece s j := by
  unfold piece
  rw [List.drop_take, List.take_take, Nat.min_eq_left (by omega)]
theorem reads_back (l : List Rec) (hl : Fit l) (x : List UInt8) (hx : x.length < 30) : Reads (flatR l ++ x) l := by
  refine ⟨⟨by rw [List.length_append, flatR_len]; omega, fun j h => ?_⟩, .inl (by rw [List.length_append, flatR_len]; omega)⟩
  rw [flatR_piece l x j h]
  have := hl l[j] (List.getElem_mem h)
  exact bytes_good _ this.1 this.2
theorem reads_cut (l : List Rec) (hl : Fit l) (k : Nat) (hk : k ≤ 30 * l.length) : Reads ((flatR l).take k) (l.take (k / 30)) := by
  have hlen : (l.take (k / 30)).length = k / 30 := by rw [List.length_take]; omega
  have hs : ((flatR l).take k).length = k := by rw [List.length_take, flatR_len]; omega
  refine ⟨⟨by rw [hlen, hs]; omega, fun j h => ?_⟩, .inl (by rw [hlen, hs]; omega)⟩
  rw [hlen] at h
  have hj : j < l.length := by omega
  have e := flatR_piece l [] j hj
  rw [List.append_nil] at e
  rw [piece_take _ _ _ (by omega), e, List.getElem_take]
  have := hl l[j] (List.getElem_mem hj)
  exact bytes_good _ this.1 this.2

theorem tot_set (a : List UInt8) (k : Nat) (h : k < a.length) (c : UInt8) : tot (a.set k c) + a[k].toNat = tot a + c.toNat := by
  induction a generalizing k with
  | nil => simp at h
  | cons d a ih =>
    cases k with
    | zero => simp [tot]; omega
    | succ k =>
      have := ih k (by simpa using h)
      simp [tot] at this ⊢; omega
theorem be4_inj {a b : Nat} (ha : a < 4294967296) (hb : b < 4294967296) (h : be 4 a = be 4 b) : a = b := by
  rw [← num_be 4 a (by simpa using ha), ← num_be 4 b (by simpa using hb), h]
theorem seal_set (s : List UInt8) (hs : s.length = 30) (hg : sealL (s.take 26) = s) (k : Nat) (hk : k < 30) (c : UInt8) (hc : s[k]'(by omega) ≠ c) : sealL ((s.set k c).take 26) ≠ s.set k c := by
  intro h
  by_cases h26 : 26 ≤ k
  · rw [List.take_set_of_le (by omega)] at h
    rw [hg] at h
    apply hc
    have h1 : (s.set k c)[k]'(by simp; omega) = c := by simp
    have h2 : (s.set k c)[k]'(by simp; omega) = s[k]'(by omega) := by congr 1; exact h.symm
    rw [← h2, h1]
  · have hk2 : k < (s.take 26).length := by rw [List.length_take]; omega
    have e1 : (s.set k c).take 26 = (s.take 26).set k c := by rw [List.take_set]
    rw [e1] at h
    have hd1 : (sealL ((s.take 26).set k c)).drop 26 = be 4 (sumN ((s.take 26).set k c)) := by
      unfold sealL
      have : ((s.take 26).set k c).length = 26 := by simp; omega
      rw [List.drop_append_of_le_length (by omega), List.drop_of_length_le (by omega)]; rfl
    have hd2 : (sealL (s.take 26)).drop 26 = be 4 (sumN (s.take 26)) := by
      unfold sealL
      have : (s.take 26).length = 26 := by simp; omega
      rw [List.drop_append_of_le_length (by omega), List.drop_of_length_le (by omega)]; rfl
    have e2 : (s.set k c).drop 26 = s.drop 26 := by rw [List.drop_set_of_lt (by omega)]
    rw [h, e2] at hd1
    rw [hg] at hd2
    have e3 := be4_inj (sumN_lt _) (sumN_lt _) (hd1.symm.trans hd2)
    have l1 := adl_lt (s.take 26)
    have l2 := adl_lt ((s.take 26).set k c)
    unfold sumN at e3
    have e4 : (adl (1, 0) ((s.take 26).set k c)).1 = (adl (1, 0) (s.take 26)).1 := by omega
    rw [adl_low, adl_low] at e4
    have e5 := tot_set (s.take 26) k hk2 c
    have e6 : (s.take 26)[k]'hk2 = s[k]'(by omega) := List.getElem_take
    rw [e6] at e5
    have b1 := UInt8.toNat_lt c
    have b2 := UInt8.toNat_lt (s[k]'(by omega))
    apply hc
    apply UInt8.toNat_inj.1
    omega
theorem reads_find (l : List Rec) (hl : Fit l) (k : Nat) (hk : k < 30 * l.length) (c : UInt8) (hc : (flatR l)[k]'(by rw [flatR_len]; exact hk) ≠ c) : Reads ((flatR l).set k c) (l.take (k / 30)) := by
  have hlen : (l.take (k / 30)).length = k / 30 := by rw [List.length_take]; omega
  have hj0 : k / 30 < l.length := by omega
  have ep : ∀ j (hj : j < l.length), piece (flatR l) j = bytesR l[j] := fun j hj => by
    have e := flatR_piece l [] j hj
    rwa [List.append_nil] at e
  have eset : ∀ j, j < k / 30 → piece ((flatR l).set k c) j = piece (flatR l) j := fun j hj => by
    unfold piece
    apply List.ext_getElem?
    intro i
    rw [List.getElem?_take, List.getElem?_take]
    split
    · rw [List.getElem?_drop, List.getElem?_drop, List.getElem?_set_ne (by omega)]
    · rfl
  have eset2 : piece ((flatR l).set k c) (k / 30) = (piece (flatR l) (k / 30)).set (k % 30) c := by
    unfold piece
    apply List.ext_getElem?
    intro i
    rw [List.getElem?_take]
    by_cases hi : i < 30
    · rw [if_pos hi, List.getElem?_drop]
      by_cases he : i = k % 30
      · subst he
        rw [show 30 * (k / 30) + k % 30 = k by omega, List.getElem?_set_self (by rw [flatR_len]; exact hk), List.getElem?_set_self (by rw [List.length_take, List.length_drop, flatR_len]; omega)]
      · rw [List.getElem?_set_ne (by omega), List.getElem?_set_ne (by omega), List.getElem?_take, if_pos hi, List.getElem?_drop]
    · rw [if_neg hi, List.getElem?_set_ne (by omega), List.getElem?_take, if_neg hi]
  refine ⟨⟨by rw [hlen, List.length_set, flatR_len]; omega, fun j h => ?_⟩, .inr ?_⟩
  · rw [hlen] at h
    have hj : j < l.length := by omega
    rw [eset j h, ep j hj, List.getElem_take]
    have := hl l[j] (List.getElem_mem hj)
    exact bytes_good _ this.1 this.2
  · rw [hlen, eset2, ep _ hj0]
    have hf := hl l[k / 30] (List.getElem_mem hj0)
    have hg := good_iff.1 (bytes_good _ hf.1 hf.2).1
    rw [good_not]
    intro ⟨h1, _⟩
    refine seal_set (bytesR l[k / 30]) (bytes_len _) hg.1 (k % 30) (by omega) c ?_ h1
    intro e
    apply hc
    rw [← e]
    have : (bytesR l[k / 30])[k % 30]? = (flatR l)[k]? := by
      rw [← ep _ hj0]; unfold piece
      rw [List.getElem?_take, if_pos (by omega), List.getElem?_drop, show 30 * (k / 30) + k % 30 = k by omega]
    rw [List.getElem?_eq_getElem (by rw [bytes_len]; omega), List.getElem?_eq_getElem (by rw [flatR_len]; exact hk)] at this
    injection this with this
    exact this.symm
end Go.Proofs.Ythjapdjglifopaa
