/- Rings (layer 6): Take. -/
import Derived.Test.YtfckgddodjmbdaaGreatDoorMDeviceNobodyF5
import Derived.Lib.SliceRun
import Derived.Lib.Join
import Derived.WalkKit
import Derived.Test.YtfckgddodjmbdaaGreatDoorMDeviceNobodyF1
import Derived.Test.YtfckgddodjmbdaaGreatDoorProg
import Derived.BigQuiet
import Derived.Deep.QuietTactic
import Derived.Test.YtfckgddodjmbdaaGreatDoorShelf
namespace Go.Proofs.YtfckgddodjmbdaaGreatDoor
set_option linter.unusedVariables false
set_option linter.unusedSimpArgs false
open Go Go.RowKit Go.Shelf
theorem run_clear_one {P : Program} (w : World) (t e ty : TypeId) (z : Value) (zs : List Value) (ht : P.underlying t = some (.slice e)) (hv : ∀ w, (zeroValue e).run P w = .ok z w) (hz : z.cells = zs.toArray) (h1 : ∀ v ∈ zs, v.oneCell' = true) (b o c : Nat)
    (hc : ∀ j, j < zs.length → (w.cell? ⟨b, o + j, none⟩).isSome = true) (hf : ∀ j, j < zs.length → w.frozen? ⟨b, o + j, none⟩ = false) :
    (Builtin.clear_ #[t] ty #[.slice (some ⟨b, o, none⟩) 1 c]).run P w = .ok (.tuple #[]) (w.setCells b o zs) := by
  have hzc : (Builtin.zeroCells z.cells 1).toList = zs := by
    rw [hz]
    simp [Builtin.zeroCells]
    apply List.ext_getElem
    · simp
    · intro i h1 h2
      simp [Nat.mod_eq_of_lt h2, List.getElem?_eq_getElem h2]
  have hst := run_storeCells_cells (P := P) b o zs 0 w (by simpa using hc) (by simpa using hf) h1
  simp only [Nat.add_zero] at hst
  simp [Builtin.clear_, run_underlying ht, hv, hzc, hst]
theorem zvItem : ∀ w : World, (zeroValue 314).run Tryz.prog w = .ok (.agg (enI zIt).toArray) w := fun _ => by kernel_rfl
set_option maxRecDepth 100000 in
set_option maxHeartbeats 4000000 in
theorem rgTake {w : World} {F : Nat → Prop} {rb room : Nat} {q : It} {Q : List It} (h : Rg w F rb room (q :: Q)) : Calls Tryz.prog 231 #[.pointer (some ⟨rb, 0, none⟩)] w fun e w' => e = .returned (.tuple #[.agg (enI q).toArray, .bool true]) ∧ Rg w' F rb room Q ∧ Kp F w w' := by
  have HH := Lib.hid (fun W (k : Kp none' w W) => rgHead (h.old k))
  simp only [hdI] at HH
  obtain ⟨v, S, fr, n, rfl, hm, ok, hroom⟩ := h
  have hn0 : 0 < n := by have := ok.len; rw [List.length_cons] at this; omega
  have hSn := ok.n_le
  have hfr := ok.frlt (by omega)
  have hfit := ok.fits
  have HT := Lib.hid (ok.take zIt).2
  obtain ⟨g, cap, rfl, _⟩ := own_shape1 hm.row (by omega)
  have hcap := own_cap hm.row
  have hgr : g ≠ rb := fun e => own_ne_blk hm.row hm.top (by decide) (by rw [e]; rfl)
  have HM := Lib.hid hm
  have hm4 : slN S.length fr 1 < S.length := slN_lt hfr (by omega)
  clear hm ok
  have hfc : (fr : Int) + 1 ≤ cap := by omega
  have hf1 : (fr : Int) < cap := by omega
  have HW : Hid (IntKind.i64.wrap ((fr : Int) + 1) = (fr : Int) + 1) := Lib.hid (by rw [IntKind.wrap_i64]; omega)
  have HB := Lib.hid (Blk.new w [.int .u64 0, .int .u32 0, .int .u32 0, .int .u64 0] 314)
  have HK := Lib.hid ((Kp.refl none' w).alloc (.cells #[.int .u64 0, .int .u32 0, .int .u32 0, .int .u64 0] 314))
  go_enter Tryz.func231, Tryz.ntmps231
  go_wp2_with fail
  refine (HH.out _ HK.out).mono ?_
  rintro e w1 ⟨rfl, hk1⟩
  have HB1 := Lib.hid (HB.out.kp hk1 (fun x => x))
  have HK1 := Lib.hid (HK.out.trans hk1)
  have HM1 := Lib.hid (HM.out.old HK1.out)
  clear hk1
  have hw1 : w.heap.size < w1.heap.size := HB1.out.lt
  have hrl : rb < w1.heap.size := HM1.out.top.lt
  go_wp2_with (first
    | (refine wp_set_row rfl 314 (.tmp 4) (.tmp 9) rfl (Blk.new w1 [.int .u64 0, .int .u32 0, .int .u32 0, .int .u64 0] 314) (enI q) rfl rfl (infoIt q) rfl (oneIt q) ?_
       intro W2 hB2 hO2 hK2
       have HY2 := Lib.hid hB2
       have HB2 := Lib.hid (hO2 _ _ _ (HB1.out.alloc _) (by omega))
       have HK2' := Lib.hid (hK2 none' w1 ((Kp.refl none' w1).alloc _) (.inr (Nat.le_refl _)))
       clear hB2 hO2 hK2))
  have HM2 := Lib.hid (HM1.out.old HK2'.out)
  have HK2 := Lib.hid (HK1.out.trans HK2'.out)
  obtain ⟨y, hy⟩ : ∃ y, w1.heap.size = y := ⟨_, rfl⟩
  rw [hy] at HY2 hw1 hrl ⊢
  clear hy
  have c0 := HM2.out.top.cell 0 rfl
  have c1 := HM2.out.top.cell 1 rfl
  refine wp_region_kept2 [] [0, 1, 2, 3, 4, 5, 6, 7, 8, 9, 10, 11, 12, 13] 14 (by kernel_rfl) (by kernel_rfl) (fun c a d u w h => by cases d <;> exact h) ?_
  simp only [pick, List.getElem?_cons_succ, List.getElem?_cons_zero, List.drop_succ_cons, List.drop_zero]
  show wpKL _ _ _ _ _ _
  repeat (first
    | (refine wpKL_op (by exact rfl) (by as_aux_lemma => intro W hK; have e0 := hK.cell c0 (fun x => x); have e1 := hK.cell c1 (fun x => x); have e2 := HW.out; go_simp; exact rfl) ?_; simp only [Act.put, List.setIfInBounds_toArray, List.set_cons_succ, List.set_cons_zero])
    | (refine wpKL_off (by exact rfl) ?_; simp only [Act.put, List.setIfInBounds_toArray, List.set_cons_succ, List.set_cons_zero]))
  show ∀ W, _ → wpList _ _ _ _ _ _
  intro W3 hK3
  have HM3 := Lib.hid (HM2.out.old hK3)
  have HY3 := Lib.hid (HY2.out.kp hK3 (fun x => x))
  have HB3 := Lib.hid (HB2.out.kp hK3 (fun x => x))
  have HK3 := Lib.hid (HK2.out.trans hK3)
  clear hK3 c0 c1
  have hcl : ∀ ty c, (Builtin.clear_ #[325] ty #[.slice (some ⟨g, fr * 4, none⟩) 1 c]).run Tryz.prog W3 = .ok (.tuple #[]) (W3.setCells g (fr * 4) (enI zIt)) := fun ty c =>
    run_clear_one W3 _ _ ty _ (enI zIt) Tryz.underlying325 zvItem rfl (oneIt zIt) g (fr * 4) c (fun j hj => by
      rw [enI_len] at hj
      have hl : (S.flatMap enI).length = S.length * 4 := flat_len enI 4 enI_len S
      rw [own_cell HM3.out.row (fr * 4 + j) (List.getElem?_eq_getElem (show fr * 4 + j < (S.flatMap enI).length by omega))]; rfl) (fun j _ => own_fz HM3.out.row _)
  have ho4 := own_setCells (enI zIt) (fr * 4) _ _ HM3.out.row
  have hk4 : Kp (fun b => b = g) W3 (W3.setCells g (fr * 4) (enI zIt)) := kp_setCells (S := fun b => b = g) (.inl rfl) _ _ _ (Kp.refl _ _)
  rw [← flat_set enI 4 enI_len S fr zIt hfr] at ho4
  obtain ⟨W4, hW4⟩ : ∃ W4, W3.setCells g (fr * 4) (enI zIt) = W4 := ⟨_, rfl⟩
  rw [hW4] at ho4 hk4
  simp only [hW4] at hcl
  clear hW4
  have hg0 : g < w.heap.size := (own_block HM.out.row rfl).2
  have hgy : y ≠ g := by omega
  have hgw : w.heap.size ≠ g := by omega
  have HY4 := Lib.hid (HY3.out.kp hk4 hgy)
  have HB4 := Lib.hid (HB3.out.kp hk4 hgw)
  have HM4 : Hid (RgM W4 rb (.slice (some ⟨g, 0, none⟩) S.length cap) (S.set fr zIt) fr n room) := Lib.hid ⟨HM3.out.top.kp hk4 (fun e => hgr e.symm), by rw [List.length_set]; exact ho4⟩
  have HK4 : Hid (Kp (RgF rb (.slice (some ⟨g, 0, none⟩) S.length cap)) w W4) := Lib.hid ((HK3.out.mono (fun _ _ x => x.elim)).trans (hk4.mono (fun b _ e => .inr (by rw [e]; rfl))))
  clear ho4 hk4
  go_wp2_with fail
  have hsl := rgSlot HM4.out (by rw [List.length_set]; exact hfr) (by rw [List.length_set]; omega) 1 (by rw [List.length_set]; omega)
  rw [List.length_set] at hsl
  obtain ⟨fr2, hf2⟩ : ∃ f, slN S.length fr 1 = f := ⟨_, rfl⟩
  rw [hf2] at hsl HT hm4
  refine Calls.mono hsl ?_
  rintro e w5 ⟨rfl, hk5⟩
  have HM5 := Lib.hid (HM4.out.old hk5)
  have HY5 := Lib.hid (HY4.out.kp hk5 (fun x => x))
  have HB5 := Lib.hid (HB4.out.kp hk5 (fun x => x))
  have HK5 : Hid (Kp (RgF rb (.slice (some ⟨g, 0, none⟩) S.length cap)) w w5) := Lib.hid (HK4.out.trans (hk5.mono (fun _ _ x => x.elim)))
  clear hk5 hsl hf2 hcl
  have r1 := HM5.out.top.cell 1 rfl
  have r2 := HM5.out.top.cell 2 rfl
  have rf := fun j => HM5.out.top.fz j
  have hyr : y ≠ rb := by omega
  have hbr : w.heap.size ≠ rb := fun e => blk_ne HB5.out HM5.out.top (by decide) e
  have hks : Kp (fun b => b = rb) w5 ((w5.setCell ⟨rb, 1, none⟩ (.int .i64 (fr2 : Int))).setCell ⟨rb, 2, none⟩ (.int .i64 ((n : Int) - 1))) := ((Kp.refl (fun b => b = rb) w5).set (p := ⟨rb, 1, none⟩) (.inl rfl) _).set (p := ⟨rb, 2, none⟩) (.inl rfl) _
  have HT6 := Lib.hid ((HM5.out.top.set 1 (.int .i64 (fr2 : Int))).set 2 (.int .i64 ((n : Int) - 1)))
  have HR6 := Lib.hid (own_kp HM5.out.row hks (fun b hb e => by have h9 : g = b := Option.some.inj hb; omega))
  have HY6 := Lib.hid (HY5.out.kp hks hyr)
  have HB6 := Lib.hid (HB5.out.kp hks hbr)
  have HK6 : Hid (Kp (RgF rb (.slice (some ⟨g, 0, none⟩) S.length cap)) w ((w5.setCell ⟨rb, 1, none⟩ (.int .i64 (fr2 : Int))).setCell ⟨rb, 2, none⟩ (.int .i64 ((n : Int) - 1)))) := Lib.hid (HK5.out.trans (hks.mono (fun b _ e => .inl e)))
  clear hks
  go_wp2_with (first
    | (refine wp_get_row rfl 314 (.tmp 4) rfl HY6.out _ rfl Tryz.underlying314 rfl (infoIt q) ?_)
    | (refine wp_set_row rfl 314 (.tmp 2) (.tmp 38) rfl HB6.out (enI q) rfl rfl (infoIt q) rfl (oneIt q) ?_
       intro W7 hB7 hO7 hK7
       have HB7 := Lib.hid hB7
       have HT7 := Lib.hid (hO7 _ _ _ HT6.out hbr.symm)
       have HK7 := Lib.hid hK7
       clear hB7 hO7 hK7))
  have hk67 := HK7.out (fun b => b = w.heap.size) _ (Kp.refl _ _) (.inl rfl)
  refine ret_row2 (by exact rfl) HB7.out _ Tryz.underlying314 rfl (infoIt q) (by exact rfl) ⟨rfl, ⟨.slice (some ⟨g, 0, none⟩) S.length cap, S.set fr zIt, fr2, n - 1, rfl, ⟨?_, ?_⟩, HT.out, hroom⟩, HK7.out _ _ HK6.out (.inr (Nat.le_refl _))⟩
  · have e : ((n - 1 : Nat) : Int) = (n : Int) - 1 := by omega
    rw [e]; exact HT7.out
  · exact own_kp HR6.out hk67 (fun b hb e => by have h9 : g = b := Option.some.inj hb; omega)
end Go.Proofs.YtfckgddodjmbdaaGreatDoor

namespace Go.Proofs.YtfckgddodjmbdaaGreatDoor
set_option linter.unusedVariables false
set_option linter.unusedSimpArgs false
def num (l : List UInt8) : Nat := l.foldl (fun n c => n * 10 + (c.toNat - 48)) 0
def M64 : Nat := 18446744073709551616
def digit (n : Nat) : UInt8 := UInt8.ofNat (48 + n % 10)
def put (n : Nat) : List UInt8 := if n < 10 then [digit n] else put (n / 10) ++ [digit n]
termination_by n
decreasing_by omega
def blank (c : UInt8) : Bool := c.toNat == 32 || c.toNat == 9
def wstep (p : List (List UInt8) × List UInt8) (c : UInt8) : List (List UInt8) × List UInt8 :=
  if blank c then (if p.2 = [] then (p.1, []) else (p.1 ++ [p.2], [])) else (p.1, p.2 ++ [c])
def wst (l : List UInt8) : List (List UInt8) × List UInt8 := l.foldl wstep ([], [])
def wend (p : List (List UInt8) × List UInt8) : List (List UInt8) := if p.2 = [] then p.1 else p.1 ++ [p.2]
def words (l : List UInt8) : List (List UInt8) := wend (wst l)

def pstep (c : UInt8) (p : List (List UInt8) × List UInt8) (d : UInt8) : List (List UInt8) × List UInt8 := if d == c then (p.1 ++ [p.2], []) else (p.1, p.2 ++ [d])
def pst (c : UInt8) (l : List UInt8) : List (List UInt8) × List UInt8 := l.foldl (pstep c) ([], [])
def parts (c : UInt8) (l : List UInt8) : List (List UInt8) := (pst c l).1 ++ [(pst c l).2]

structure FlR where
  id : Nat
  cost : Nat
  budget : Nat
  size : Nat
  cap : Nat
structure FlR.ok (f : FlR) : Prop where
  id : f.id < 4294967296
  cost : f.cost < 18446744073709551616
  budget : f.budget < 18446744073709551616
  size : f.size < 18446744073709551616
  cap : f.cap < 18446744073709551616
instance : Inhabited FlR := ⟨⟨0, 0, 0, 0, 0⟩⟩
def enFl (f : FlR) : List Value := [.int .u32 f.id, .int .u64 f.cost, .int .u64 f.budget, .int .u64 f.size, .int .u64 f.cap]
theorem enFl_len (f : FlR) : (enFl f).length = 5 := rfl

structure CfR where
  rank : Int
  back : Int
  levels : Int
  queues : Int
  packets : Int
  bytes : Nat
  share : Int
  mtu : Nat
  rate : Nat
  burst : Nat
  flows : List FlR
structure CfR.ok (c : CfR) : Prop where
  rank : -9223372036854775808 ≤ c.rank ∧ c.rank ≤ 9223372036854775807
  back : -9223372036854775808 ≤ c.back ∧ c.back ≤ 9223372036854775807
  levels : -9223372036854775808 ≤ c.levels ∧ c.levels ≤ 9223372036854775807
  queues : -9223372036854775808 ≤ c.queues ∧ c.queues ≤ 9223372036854775807
  packets : -9223372036854775808 ≤ c.packets ∧ c.packets ≤ 9223372036854775807
  bytes : c.bytes < M64
  share : -9223372036854775808 ≤ c.share ∧ c.share ≤ 9223372036854775807
  mtu : c.mtu < M64
  rate : c.rate < M64
  burst : c.burst < M64
  flows : ∀ f ∈ c.flows, f.ok
def flowsE (l : List FlR) : Int := if l.length = 0 ∨ 64 < l.length then 29 else if (l.map (·.id)).Nodup then 0 else 30
def admE (c : CfR) : Int :=
  if c.packets < 1 ∨ 4096 < c.packets ∨ c.bytes = 0 ∨ c.share < 0 ∨ 16 < c.share then 25
  else if 18446744073709551615 / 2 ^ c.share.toNat < c.bytes then 25 else if c.mtu < 1 ∨ 65535 < c.mtu then 26 else flowsE c.flows
def chk (c : CfR) : Int :=
  if c.rank < 1 ∨ 3 < c.rank ∨ c.back < 1 ∨ 3 < c.back then 22 else if c.levels < 1 ∨ 3 < c.levels then 23 else if c.queues < 1 ∨ 32 < c.queues then 24
  else if admE c ≠ 0 then admE c else if c.rate = 0 then 27 else if c.burst < c.mtu then 28 else 0
def skip (l : List UInt8) : Bool := match words l with | [] => true | w :: _ => w.head? == some 35
end Go.Proofs.YtfckgddodjmbdaaGreatDoor

namespace Go.Proofs.YtfckgddodjmbdaaGreatDoor
set_option linter.unusedVariables false
set_option linter.unusedSimpArgs false
open Go Go.RowKit
theorem run_append_nilarg {P : Program} (w : World) (t ty e : TypeId) (i : TypeInfo) (ht : P.underlying t = some (.slice e)) (hi : P.info? e = some i) (base : Option Addr) (n cap c : Nat) (hn : n ≤ cap) : (Builtin.append_ #[t, t] ty #[.slice base n cap, .slice none 0 c]).run P w = .ok (.slice base n cap) w := by
  cases base with
  | none => simp [Builtin.append_, run_underlying ht, sizeOf, typeInfo, hi, Builtin.lenOf, Builtin.firstCells, hn]
  | some a => simp [Builtin.append_, run_underlying ht, sizeOf, typeInfo, hi, Builtin.lenOf, Builtin.firstCells, hn, storeCells]
theorem wp_appSl {P : Program} {t e : TypeId} {z : Value} {size bytes : Nat} (T : SlT P t e z size bytes) {ops : Array Oper} {rest : List Oper} {o : Oper} {a : Act} {Q : Exit → Act → World → Prop} {w : World} (s x : Operand)
    (hgd : o.guard = none) (ho : o.op = .call { callee := .builtin .append, args := #[s, x], argTypes := #[t, t] }) (base : Nat) {v : Value} {n : Nat} {xs : List Value} (hown : w.ownsRow base e size v n xs)
    {v2 : Value} {m : Nat} {news : List Value} (hs : a.eval s = v) (hx : a.eval x = v2) (hsl : Sl w v2 m size news) (h1 : news.all (·.oneCell') = true)
    (hbytes : (n + m) * bytes ≤ 140737488355328) (h63 : n + m ≤ 9223372036854775807) (hbase : base ≤ w.heap.size)
    (h : ∀ v' w', w'.ownsRow base e size v' (n + m) (xs ++ news) → w.grownBy w' v.ownBlock → wpList P ops Q rest (a.put o.dst v') w') : wpList P ops Q (o :: rest) a w := by
  obtain ⟨i, hi, hz0, hz1, hz2⟩ := info_parts T.info
  obtain ⟨ao, c, rfl, hc⟩ := hsl.is
  cases ao with
  | some ad =>
    refine wpList_append_own w hgd s x t ho base e i z size bytes T.ht hi hz0 hz1 hz2 T.hz T.pos v n xs hs hown ad m c news hx hsl.len ?_ (by simpa using h1) (by unfold maxLen; omega) hbytes hbase (fun v' w' a1 a2 _ => h v' w' a1 a2)
    intro j u hu
    obtain ⟨b, off, e1, h2⟩ := hc j u hu
    injection e1 with e1
    subst e1
    have e : (⟨b, off, none⟩ : Addr).add j = ⟨b, off + j, none⟩ := by unfold Addr.add; split <;> simp_all
    rw [e]; exact h2
  | none =>
    have hn : news = [] := by
      cases news with
      | nil => rfl
      | cons u r => obtain ⟨_, _, e1, _⟩ := hc 0 u rfl; cases e1
    subst hn
    have hm : m = 0 := by
      have h1 := hsl.len
      rw [List.length_nil] at h1
      rcases Nat.mul_eq_zero.1 h1.symm with h2 | h2
      · exact h2
      · have := T.pos; omega
    subst hm
    obtain ⟨bo, cap, rfl⟩ := own_shape hown
    have hcap : n ≤ cap := by
      rcases hown.2 with ⟨h0, hn⟩ | ⟨g, cap', cur, hv, _, _, h2, _⟩
      · omega
      · injection hv with _ _ h3; omega
    have hr := run_append_nilarg (P := P) w t o.type e i T.ht hi bo n cap c hcap
    refine wpList_plain hgd fun K hK => ?_
    unfold Oper.wp execOp
    simp only [ho, resolve, invoke, builtin, Sem.run_bind, Sem.run_pure, Result.andThen_ok, List.map_toArray, List.map_cons, List.map_nil, hs, hx, hr]
    exact hK _ _ (h _ _ (by simpa using hown) ⟨rfl, rfl, rfl, Nat.le_refl _, fun _ _ _ => rfl⟩)
end Go.Proofs.YtfckgddodjmbdaaGreatDoor

namespace Go.Proofs.YtfckgddodjmbdaaGreatDoor
set_option linter.unusedVariables false
set_option linter.unusedSimpArgs false
open Go.RowKit
def strs (l : List ByteArray) : List Value := l.map Value.string
theorem strs_get (l : List ByteArray) (k : Nat) (h : k < l.length) : (strs l)[k]? = some (.string (l[k]'h)) := by simp [strs, h]
theorem strs_len (l : List ByteArray) : (strs l).length = l.length := by simp [strs]
theorem strs_snoc (l : List ByteArray) (x : ByteArray) : strs (l ++ [x]) = strs l ++ [.string x] := by simp [strs]
theorem tStr : SlT Tryz.prog 96 9 (.string ByteArray.empty) 1 16 := ⟨Tryz.underlying96, by kernel_rfl, rfl, by decide⟩
end Go.Proofs.YtfckgddodjmbdaaGreatDoor

namespace Go.Proofs.YtfckgddodjmbdaaGreatDoor
set_option linter.unusedVariables false
set_option linter.unusedSimpArgs false
end Go.Proofs.YtfckgddodjmbdaaGreatDoor

namespace Go.Proofs.YtfckgddodjmbdaaGreatDoor
set_option linter.unusedVariables false
set_option linter.unusedSimpArgs false
open Go Go.RowKit Go.Shelf
def eU (x : Nat) : Value := .int .u32 x
theorem tU32 : SlT Tryz.prog 127 24 (.int .u32 0) 1 4 := ⟨Tryz.underlying127, by kernel_rfl, rfl, by decide⟩
theorem tFlw : SlT Tryz.prog 74 158 (.agg #[.int .u32 0, .int .u64 0, .int .u64 0, .int .u64 0, .int .u64 0]) 5 40 := ⟨Tryz.underlying74, by kernel_rfl, rfl, by decide⟩
theorem tU64 : SlT Tryz.prog 225 22 (.int .u64 0) 1 8 := ⟨Tryz.underlying225, by kernel_rfl, rfl, by decide⟩
theorem eU_get {xs : List Nat} {i : Nat} (h : i < xs.length) : (xs.map eU)[i]? = some (.int .u32 (xs[i] : Int)) := by
  rw [List.getElem?_map, List.getElem?_eq_getElem h]; rfl
set_option maxHeartbeats 2000000 in
theorem gIndex (xs : List Nat) (x : Nat) (v : Value) (w : World) (h : Sl w v xs.length 1 (xs.map eU)) : Calls Tryz.prog 144 #[v, .int .u32 x] w fun e w' => (∃ r : Int, e = .returned (.int .i64 r) ∧ (0 ≤ r ↔ x ∈ xs)) ∧ Kp none' w w' := by
  obtain ⟨ao, cap, rfl⟩ : ∃ ao cap, v = .slice ao xs.length cap := by obtain ⟨ao, cap, rfl, _⟩ := h.is; exact ⟨_, _, rfl⟩
  have hmx := h.max
  have HS := Lib.hid h
  clear h
  go_enter Tryz.func144, Tryz.ntmps144
  go_wp2
  go_loopw [8] (fun i0 wr => ∃ k : Nat, i0 = .int .i64 k ∧ k ≤ xs.length ∧ Hid ((∀ (j : Nat) (hj : j < xs.length), j < k → x ≠ xs[j]) ∧ Kp none' w wr)) (fun i0 _ => xs.length - (intOf i0).toNat)
  case atStart => exact ⟨0, rfl, by omega, fun j _ h => by omega, Kp.refl _ _⟩
  case round =>
    obtain ⟨k, rfl, hk, hr⟩ := hrel
    by_cases hlt : k < xs.length
    · have hki : (k : Int) < xs.length := by omega
      obtain ⟨ao', cap', e1, hc⟩ := (HS.out.old hr.out.2).is
      injection e1 with e1 _ e3
      subst e1 e3
      obtain ⟨b, off, rfl, hcell⟩ := hc k _ (eU_get hlt)
      by_cases hx : x = xs[k]
      · have hxi : (x : Int) = (xs[k] : Nat) := by rw [← hx]
        have hxb : ((x : Int) == ((xs[k] : Nat) : Int)) = true := by rw [beq_iff_eq]; exact hxi
        have HX : Hid (x ∈ xs) := by show _ ∈ _; rw [hx]; exact List.getElem_mem hlt
        clear hx hc hxi
        go_wp2
        go_ret
        exact ⟨⟨_, rfl, ⟨fun _ => HX.out, fun _ => by omega⟩⟩, hr.out.2⟩
      · have hxb : ((x : Int) == ((xs[k] : Nat) : Int)) = false := by rw [beq_eq_false_iff_ne]; omega
        have HX := Lib.hid hx
        clear hx hc
        go_wp2
        go_roundw
        case rel => exact ⟨k + 1, by go_num, by omega, fun j hj h => by
          rcases Nat.lt_or_ge j k with h1 | h1
          · exact hr.out.1 j hj h1
          · have : j = k := by omega
            subst this; exact HX.out, hr.out.2⟩
        case measure => simp [intOf]; omega
    · have hke : k = xs.length := by omega
      subst hke
      go_wp2
      go_ret
      refine ⟨⟨_, rfl, ⟨fun h => by omega, fun h => ?_⟩⟩, hr.out.2⟩
      obtain ⟨i, hi, e⟩ := List.mem_iff_getElem.1 h
      exact absurd e.symm (hr.out.1 i hi hi)
set_option maxHeartbeats 2000000 in
theorem gContains (xs : List Nat) (x : Nat) (v : Value) (w : World) (h : Sl w v xs.length 1 (xs.map eU)) : Calls Tryz.prog 135 #[v, .int .u32 x] w fun e w' => e = .returned (.bool (decide (x ∈ xs))) ∧ Kp none' w w' := by
  have HI := Lib.hid (gIndex xs x v w h)
  clear h
  go_enter Tryz.func135, Tryz.ntmps135
  go_wp2_with fail
  refine (HI.out).mono ?_
  rintro e w1 ⟨⟨r, rfl, hr⟩, k1⟩
  have HK := Lib.hid k1
  have hd : decide (0 ≤ r) = decide (x ∈ xs) := by rw [decide_eq_decide]; exact hr
  have HD := Lib.hid hd
  clear hr hd k1 HI
  go_wp2
  go_ret
  exact ⟨by rw [← HD.out]; rfl, HK.out⟩
def idsF (l : List FlR) : List Nat := l.map (·.id)
theorem idsF_snoc (l : List FlR) (k : Nat) (h : k < l.length) : idsF (l.take (k + 1)) = idsF (l.take k) ++ [l[k].id] := by
  unfold idsF; rw [List.take_succ_eq_append_getElem h, List.map_append]; rfl
theorem idsF_len (l : List FlR) (k : Nat) (h : k ≤ l.length) : (idsF (l.take k)).length = k := by unfold idsF; rw [List.length_map, List.length_take]; omega
theorem nodup_snoc {xs : List Nat} {x : Nat} (h : xs.Nodup) (hx : x ∉ xs) : (xs ++ [x]).Nodup := by
  rw [List.nodup_append]
  exact ⟨h, by simp, fun a ha b hb => by simp at hb; subst hb; exact fun e => hx (e ▸ ha)⟩
theorem nodup_not {l : List FlR} {k : Nat} (h : k < l.length) (hx : l[k].id ∈ idsF (l.take k)) : ¬ (idsF l).Nodup := by
  intro hn
  have e : idsF l = idsF (l.take (k + 1)) ++ idsF (l.drop (k + 1)) := by unfold idsF; rw [← List.map_append, List.take_append_drop]
  rw [e, idsF_snoc l k h, List.nodup_append] at hn
  have := (List.nodup_append.1 hn.1).2.2 _ hx l[k].id (by simp)
  exact this rfl
set_option maxRecDepth 100000 in
set_option maxHeartbeats 4000000 in
theorem gTwice (l : List FlR) (hl : l.length ≤ 64) (v : Value) (w : World) (h : Sl w v l.length 5 (l.flatMap enFl)) : Calls Tryz.prog 115 #[v] w fun e w' => e = .returned (.bool (!decide (idsF l).Nodup)) ∧ Kp none' w w' := by
  obtain ⟨ao, cap, rfl⟩ : ∃ ao cap, v = .slice ao l.length cap := by obtain ⟨ao, cap, rfl, _⟩ := h.is; exact ⟨_, _, rfl⟩
  have HS := Lib.hid h
  clear h
  go_enter Tryz.func115, Tryz.ntmps115
  go_wp2
  go_loopw [3, 8] (fun s0 i0 wr => ∃ (k : Nat) (v3 : Value), v3 = s0 ∧ i0 = .int .i64 k ∧ k ≤ l.length ∧ Hid (wr.ownsRow w.heap.size 24 1 v3 k ((idsF (l.take k)).map eU) ∧ (idsF (l.take k)).Nodup ∧ Kp none' w wr)) (fun _ i0 _ => l.length - (intOf i0).toNat)
  case atStart => exact ⟨0, _, rfl, rfl, by omega, ⟨rfl, .inl ⟨rfl, rfl⟩⟩, List.nodup_nil, Kp.refl _ _⟩
  case round =>
    obtain ⟨k, v3, rfl, rfl, hk, hr⟩ := hrel
    by_cases hlt : k < l.length
    · have hki : (k : Int) < l.length := by omega
      obtain ⟨gx, ox, cx, e1, hcx⟩ := (HS.out.old hr.out.2.2).at enFl_len (by decide) k hlt
      injection e1 with e1 _ e3
      subst e1 e3
      obtain ⟨f, hf⟩ : ∃ f, l[k] = f := ⟨_, rfl⟩
      have hsn := idsF_snoc l k hlt
      have HND : Hid (f.id ∈ idsF (l.take k) → ¬ (idsF l).Nodup) := by show _ → _; rw [← hf]; exact nodup_not hlt
      rw [hf] at hcx hsn
      have d0 := hcx 0 _ rfl
      have d1 := hcx 1 _ rfl
      have d2 := hcx 2 _ rfl
      have d3 := hcx 3 _ rfl
      have d4 := hcx 4 _ rfl
      simp only [Nat.add_zero] at d0
      have hil := idsF_len l k (by omega)
      have HSN := Lib.hid hsn; have HIL := Lib.hid hil
      have hzr := hr.out.2.2.size
      clear hcx hf hsn hil
      go_wp2_with fail
      have hk1 := (Kp.refl none' wr).alloc (.cells (enFl f).toArray 158)
      have hb1 := Blk.new wr (enFl f) 158
      have hk1' : Kp none' wr (wr.alloc (.cells #[.int .u32 f.id, .int .u64 f.cost, .int .u64 f.budget, .int .u64 f.size, .int .u64 f.cap] 158)) := hk1
      have hb1' : Blk (wr.alloc (.cells #[.int .u32 f.id, .int .u64 f.cost, .int .u64 f.budget, .int .u64 f.size, .int .u64 f.cap] 158)) wr.heap.size (enFl f) 158 := hb1
      clear hk1 hb1 d0 d1 d2 d3 d4
      generalize wr.alloc (.cells #[.int .u32 f.id, .int .u64 f.cost, .int .u64 f.budget, .int .u64 f.size, .int .u64 f.cap] 158) = w1 at *
      have HK1 := Lib.hid hk1'; have HB1 := Lib.hid hb1'
      have HO1 := Lib.hid (own_kp hr.out.1 hk1' (fun _ _ x => x))
      clear hk1' hb1'
      have HC := Lib.hid (gContains (idsF (l.take k)) f.id v3 w1 (by have := own_sl HO1.out; rw [HIL.out]; exact this))
      refine (HC.out).mono ?_
      rintro e w2 ⟨rfl, k2⟩
      have HK2 := Lib.hid (HK1.out.trans k2); have HB2 := Lib.hid (HB1.out.kp k2 (fun x => x)); have HO2 := Lib.hid (own_kp HO1.out k2 (fun _ _ x => x))
      have hz2 := (hr.out.2.2.trans HK2.out).size
      clear k2 HC HB1 HK1 HO1
      have c0 := HB2.out.cell 0 rfl
      cases hb : decide (f.id ∈ idsF (l.take k)) with
      | true =>
        have HN := Lib.hid (HND.out (of_decide_eq_true hb))
        clear hb
        go_wp2
        go_ret
        exact ⟨by rw [decide_eq_false HN.out]; rfl, hr.out.2.2.trans HK2.out⟩
      | false =>
        have HN := Lib.hid (nodup_snoc hr.out.2.1 (of_decide_eq_false hb))
        clear hb
        go_wp2_with (first
          | (refine wp_app1 tU32 (.tmp 16) (.tmp 19) rfl rfl w.heap.size (v := v3) (HO2.out.alloc _) [.int .u32 f.id] rfl rfl rfl (fr := (0, 0)) (heap_new _ _) rfl (by omega) (by omega) (by simp; omega) ?_; intro g8 cap8 w8 hown8 hgrow8
             have hk8 := ((hr.out.2.2.trans HK2.out).alloc (.cells #[.int .u32 f.id] 24)).grown hgrow8 (fun b hb => .inr (own_block hr.out.1 hb).1)
             have HK8 := Lib.hid hk8
             have HO8 : Hid (w8.ownsRow w.heap.size 24 1 (.slice (some ⟨g8, 0, none⟩) (k + 1) cap8) (k + 1) ((idsF (l.take (k + 1))).map eU)) := by show World.ownsRow _ _ _ _ _ _ _; rw [HSN.out, List.map_append]; exact hown8
             clear hown8 hgrow8 hk8))
        go_roundw
        case rel => exact ⟨k + 1, _, rfl, by go_num, by omega, HO8.out, by rw [HSN.out]; exact HN.out, HK8.out⟩
        case measure => simp [intOf]; omega
    · have hke : k = l.length := by omega
      subst hke
      have HN : Hid ((idsF l).Nodup) := by have := hr.out.2.1; rw [List.take_length] at this; exact this
      go_wp2
      go_ret
      exact ⟨by rw [decide_eq_true HN.out]; rfl, hr.out.2.2⟩

theorem own_zero (w : World) (e : TypeId) (sz : Nat) : (w.alloc (.cells #[] e)).ownsRow w.heap.size e sz (.slice (some ⟨w.heap.size, 0, none⟩) 0 0) 0 [] :=
  ⟨by simp, .inr ⟨w.heap.size, 0, #[], rfl, Nat.le_refl _, heap_new _ _, Nat.le_refl _, by unfold maxLen; omega, by simp, by simp⟩⟩
theorem heap_newC (w : World) (o : Obj) {n : Nat} (h : n = w.heap.size) : (w.alloc o).heap[n]? = some o := by subst h; exact heap_new w o
theorem one_fl (l : List FlR) : (l.flatMap enFl).all (·.oneCell') = true := by
  rw [List.all_eq_true]
  intro v hv
  obtain ⟨r, _, hv⟩ := List.mem_flatMap.1 hv
  simp only [enFl, List.mem_cons, List.not_mem_nil, or_false] at hv
  rcases hv with rfl | rfl | rfl | rfl | rfl <;> rfl
set_option maxHeartbeats 4000000 in
theorem gClone (l : List FlR) (hl : l.length ≤ 64) (v : Value) (w : World) (h : Sl w v l.length 5 (l.flatMap enFl)) : Calls Tryz.prog 116 #[v] w fun e w' => (∃ ao n cap, e = .returned (.slice ao n cap)) ∧ Kp none' w w' := by
  obtain ⟨ao, cap, rfl⟩ : ∃ ao cap, v = .slice ao l.length cap := by obtain ⟨ao, cap, rfl, _⟩ := h.is; exact ⟨_, _, rfl⟩
  have HS := Lib.hid h
  clear h
  have HOF := Lib.hid (one_fl l)
  cases ao with
  | none =>
    have hnil : ∀ W : World, (binOp BinOp.eql 74 (.slice none l.length cap) (.slice none 0 0)).run Tryz.prog W = .ok (.bool true) W := fun _ => by kernel_rfl
    go_enter Tryz.func116, Tryz.ntmps116
    go_wp2
    go_ret
    exact ⟨⟨_, _, _, rfl⟩, Kp.refl _ _⟩
  | some ad =>
    have hnil : ∀ W : World, (binOp BinOp.eql 74 (.slice (some ad) l.length cap) (.slice none 0 0)).run Tryz.prog W = .ok (.bool false) W := fun _ => by kernel_rfl
    have hs2 := HS.out.old ((Kp.refl none' w).alloc (.cells #[] 158))
    have HS2 := Lib.hid hs2
    clear hs2
    go_enter Tryz.func116, Tryz.ntmps116
    go_wp2_with (first
      | (refine wp_appSl tFlw (.tmp 5) (.tmp 6) rfl rfl w.heap.size (own_zero w 158 5) rfl rfl HS2.out HOF.out (by omega) (by omega) (by simp) ?_; intro v8 w8 hown8 hgrow8
         have hk8 := ((Kp.refl none' w).alloc (.cells #[] 158)).grown hgrow8 (fun b hb => .inr (by cases hb; exact Nat.le_refl _))
         obtain ⟨ao8, cap8, rfl⟩ := own_shape hown8
         have HK8 := Lib.hid hk8
         clear hown8 hgrow8 hk8))
    go_ret
    exact ⟨⟨_, _, _, rfl⟩, HK8.out⟩
structure NwI (w wr : World) (rb : Nat) (fv v2 : Value) (k : Nat) : Prop where
  blk : Blk wr rb [.int .i64 2, fv, v2, .int .u64 0] 227
  own : wr.ownsRow w.heap.size 22 1 v2 k (List.replicate k (.int .u64 0))
  kp : Kp none' w wr
set_option maxRecDepth 100000 in
set_option maxHeartbeats 4000000 in
theorem gRank (l : List FlR) (v : Value) (w : World) (h : Sl w v l.length 5 (l.flatMap enFl)) : Calls Tryz.prog 86 #[.int .i64 2, v] w fun e w' => (∃ p, e = .returned (.tuple #[p, .int .i64 (flowsE l)])) ∧ Kp none' w w' := by
  obtain ⟨ao, cap, rfl⟩ : ∃ ao cap, v = .slice ao l.length cap := by obtain ⟨ao, cap, rfl, _⟩ := h.is; exact ⟨_, _, rfl⟩
  have HS := Lib.hid h
  have hmx := h.max
  clear h
  by_cases h0 : l.length = 0
  · have HE : Hid (flowsE l = 29) := by show _ = _; unfold flowsE; rw [if_pos (.inl h0)]
    have e1 : ((l.length : Int) == 0) = true := by rw [beq_iff_eq]; omega
    have e2 : (l.length == 0) = true := by rw [beq_iff_eq]; omega
    rw [h0] at HS ⊢
    clear hmx e1 e2
    go_enter Tryz.func86, Tryz.ntmps86
    go_wp2
    go_ret2
    exact ⟨⟨_, by rw [HE.out]; rfl⟩, Kp.refl _ _⟩
  · have e1 : ((l.length : Int) == 0) = false := by rw [beq_eq_false_iff_ne]; omega
    by_cases h64 : 64 < l.length
    · have HE : Hid (flowsE l = 29) := by show _ = _; unfold flowsE; rw [if_pos (.inr h64)]
      have h64i : (64 : Int) < l.length := by omega
      clear h0
      go_enter Tryz.func86, Tryz.ntmps86
      go_wp2
      go_ret2
      exact ⟨⟨_, by rw [HE.out]; rfl⟩, Kp.refl _ _⟩
    · have h64i : ¬ (64 : Int) < l.length := by omega
      have HE0 : Hid (flowsE l = if (idsF l).Nodup then 0 else 30) := by show _ = _; unfold flowsE; rw [if_neg (by omega)]; rfl
      have HT := Lib.hid (gTwice l (by omega) (.slice ao l.length cap) w HS.out)
      have HCL := Lib.hid (fun W hs => gClone l (by omega) (.slice ao l.length cap) W hs)
      have hl64 : l.length ≤ 64 := by omega
      clear h0 h64
      go_enter Tryz.func86, Tryz.ntmps86
      go_wp2_with fail
      refine (HT.out).mono ?_
      rintro e w1 ⟨rfl, k1⟩
      have HK1 := Lib.hid k1
      clear k1 HT
      by_cases hn : (idsF l).Nodup
      · have HE : Hid (flowsE l = 0) := by show _ = _; rw [HE0.out, if_pos hn]
        have hd : (!decide (idsF l).Nodup) = false := by simp [hn]
        rw [hd]
        clear hd HE0 hn
        go_wp2_with fail
        refine (HCL.out _ (HS.out.old HK1.out)).mono ?_
        rintro e w2 ⟨⟨fo, fn, fc, rfl⟩, k2⟩
        have HK2 := Lib.hid (HK1.out.trans k2)
        clear k2 HCL
        go_wp2_with fail
        have hz2 := HK2.out.size
        have hb3 := Blk.new w2 [.int .i64 2, .slice fo fn fc, .slice none 0 0, .int .u64 0] 227
        have hk3 := HK2.out.alloc (.cells #[.int .i64 2, .slice fo fn fc, .slice none 0 0, .int .u64 0] 227)
        have hk3' : Kp none' w (w2.alloc (.cells #[.int .i64 2, .slice fo fn fc, .slice none 0 0, .int .u64 0] 227)) := hk3
        have hb3' : Blk (w2.alloc (.cells #[.int .i64 2, .slice fo fn fc, .slice none 0 0, .int .u64 0] 227)) w2.heap.size [.int .i64 2, .slice fo fn fc, .slice none 0 0, .int .u64 0] 227 := hb3
        clear hk3 hb3
        generalize w2.alloc (.cells #[.int .i64 2, .slice fo fn fc, .slice none 0 0, .int .u64 0] 227) = w3 at *
        obtain ⟨rb, hrb⟩ : ∃ rb, w2.heap.size = rb := ⟨_, rfl⟩
        rw [hrb] at hb3' hz2 ⊢
        have HI0 : Hid (NwI w w3 rb (.slice fo fn fc) (.slice none 0 0) 0) := ⟨hb3', ⟨rfl, .inl ⟨rfl, rfl⟩⟩, hk3'⟩
        clear hb3' hk3' hrb HK2
        go_loopw [36] (fun i0 wr => ∃ (k : Nat) (v2 : Value), i0 = .int .i64 k ∧ k ≤ l.length ∧ Hid (NwI w wr rb (.slice fo fn fc) v2 k)) (fun i0 _ => l.length - (intOf i0).toNat)
        case atStart => exact ⟨0, _, rfl, by omega, HI0.out⟩
        case round =>
          clear HI0
          obtain ⟨k, v2, rfl, hk, hr⟩ := hrel
          by_cases hlt : k < l.length
          · have hki : (k : Int) < l.length := by omega
            obtain ⟨gx, ox, cx, e1, hcx⟩ := (HS.out.old hr.out.kp).at enFl_len (by decide) k hlt
            injection e1 with e1 _ e3
            subst e1 e3
            obtain ⟨f, hf⟩ : ∃ f, l[k] = f := ⟨_, rfl⟩
            rw [hf] at hcx
            have d0 := hcx 0 _ rfl
            have d1 := hcx 1 _ rfl
            have d2 := hcx 2 _ rfl
            have d3 := hcx 3 _ rfl
            have d4 := hcx 4 _ rfl
            simp only [Nat.add_zero] at d0
            have hzr := hr.out.kp.size
            have hba := hr.out.blk.alloc (.cells #[.int .u32 f.id, .int .u64 f.cost, .int .u64 f.budget, .int .u64 f.size, .int .u64 f.cap] 158)
            have c2 := hba.cell 2 rfl
            have hba2 := hba.alloc (.cells #[.int .u64 0] 22)
            have HBA := Lib.hid hba2
            have HOA := Lib.hid (own_kp (S := none') hr.out.own (((Kp.refl none' wr).alloc (.cells #[.int .u32 f.id, .int .u64 f.cost, .int .u64 f.budget, .int .u64 f.size, .int .u64 f.cap] 158)).alloc (.cells #[.int .u64 0] 22)) (fun _ _ x => x))
            have HKA := Lib.hid ((hr.out.kp.alloc (.cells #[.int .u32 f.id, .int .u64 f.cost, .int .u64 f.budget, .int .u64 f.size, .int .u64 f.cap] 158)).alloc (.cells #[.int .u64 0] 22))
            have HNE := Lib.hid (own_ne_blk hr.out.own hr.out.blk (by decide))
            clear hcx hf hba hba2
            go_wp2_with (first
              | (refine wp_app1 tU64 (.tmp 48) (.tmp 50) rfl rfl w.heap.size (v := v2) HOA.out [.int .u64 0] rfl rfl rfl (fr := (0, 0)) (heap_newC _ _ (by simp)) rfl (by omega) (by omega) (by simp; omega) ?_; intro g8 cap8 w8 hown8 hgrow8
                 have hk8 := HKA.out.grown hgrow8 (fun b hb => .inr (own_block HOA.out hb).1)
                 have hb8 := HBA.out.grown hgrow8 (fun e => HNE.out e.symm)
                 have x2 := hb8.cell 2 rfl
                 have z2 := hb8.fz 2
                 have HK8 := Lib.hid hk8; have HB8 := Lib.hid hb8; have HO8 := Lib.hid hown8
                 clear hown8 hgrow8 hk8 hb8))
            have hown9 := own_setNe HO8.out (a := ⟨rb, 2, none⟩) (fun b hb e => own_ne_blk HO8.out HB8.out (by decide) (by rw [hb]; exact congrArg some e)) (.slice (some ⟨g8, 0, none⟩) (k + 1) cap8)
            have hr9 : NwI w (w8.setCell ⟨rb, 2, none⟩ (.slice (some ⟨g8, 0, none⟩) (k + 1) cap8)) rb (.slice fo fn fc) (.slice (some ⟨g8, 0, none⟩) (k + 1) cap8) (k + 1) :=
              ⟨HB8.out.set 2 _, by rw [List.replicate_succ']; exact hown9, HK8.out.set (p := ⟨rb, 2, none⟩) (.inr hz2) _⟩
            have HR9 := Lib.hid hr9
            clear hown9 hr9
            go_roundw
            case rel => exact ⟨k + 1, _, by go_num, by omega, HR9.out⟩
            case measure => simp [intOf]; omega
          · have hke : k = l.length := by omega
            subst hke
            go_wp2
            go_ret2
            exact ⟨⟨_, by rw [HE.out]; rfl⟩, hr.out.kp⟩
      · have HE : Hid (flowsE l = 30) := by show _ = _; rw [HE0.out, if_neg hn]
        have hd : (!decide (idsF l).Nodup) = true := by simp [hn]
        rw [hd]
        clear hd HE0 hn
        go_wp2
        go_ret2
        exact ⟨⟨_, by rw [HE.out]; rfl⟩, HK1.out⟩
end Go.Proofs.YtfckgddodjmbdaaGreatDoor
