/- Walks for layer 42: how a shaper stands (stats); lines of one, and of three numbers. -/
import Derived.Test.YtacgabagfdlpeaaGreatDoorWlL
import Derived.ChangeKeysEq
import Derived.Deep.MidRow
namespace Go.Proofs.YtacgabagfdlpeaaGreatDoor
set_option linter.unusedVariables false
set_option linter.unusedSimpArgs false
open Go Go.RowKit Go.Shelf

def enSt (r : RpF) : List Value := [.int .u64 r.now, .int .u64 r.tokens, .int .i64 r.packets, .int .u64 r.bytes] ++ u64w r.ref
theorem enRp_drop (r : RpF) : (enRp r).drop 6 = enSt r := rfl
theorem enSt_len {r : RpF} (h : r.ok) : (enSt r).length = 36 := by simp [enSt, u64w, h.n32]
theorem infoRp {r : RpF} (h : r.ok) : (Tryz.prog.info? 31).map (·.size) = some (enRp r).length := by rw [enRp_len h]; kernel_rfl
theorem infoSt {r : RpF} (h : r.ok) : (Tryz.prog.info? 29).map (·.size) = some (enSt r).length := by rw [enSt_len h]; kernel_rfl
theorem u64w_at (l : List Nat) (i : Nat) (h : i < l.length) : (u64w l)[i]? = some (.int .u64 (l[i] : Int)) := by simp [u64w, h]
theorem infoA32 (l : List Nat) (h : l.length = 32) : (Tryz.prog.info? 27).map (·.size) = some (u64w l).length := by rw [u64w_len, h]; kernel_rfl
theorem infoU64 : ∃ i, Tryz.prog.info? 24 = some i := Option.isSome_iff_exists.1 (by kernel_rfl)
theorem ixA (i : Nat) (hi : i < 32) (cs : Array Value) (v : Value) (hv : cs[i]? = some v) (w : World) : (Instr.index 27 (.agg cs) (.int .i64 i)).run Tryz.prog w = .ok v w := by
  obtain ⟨inf, hinf⟩ := infoU64
  have hp : Tryz.prog.plainKey 24 = true := by kernel_rfl
  have h1 := run_underlying Tryz.underlying27 w
  have h2 := run_sizeOf hinf (w := w)
  rw [cellsW] at h2
  have h3 := run_part_plain (P := Tryz.prog) hp hv (w := w)
  have hc : (0 : Int) ≤ (i : Int) ∧ (i : Int) < ((32 : Nat) : Int) := by omega
  unfold Instr.index asIntOf
  simp only [Sem.run_bind, Sem.run_pure, Result.andThen_ok, h1]
  rw [if_pos hc]
  simp only [Sem.run_bind, Result.andThen_ok, h2, Int.toNat_natCast, Nat.mul_one, h3]
theorem u64w_one (l : List Nat) : (u64w l).all (·.oneCell') = true := by
  rw [List.all_eq_true]; intro v hv; obtain ⟨n, _, rfl⟩ := List.mem_map.1 hv; rfl
/-- The number behind the words, told as a text that is there. -/
theorem wL (s : ByteArray) (hs : s.size ≤ 1000) (l : List Nat) (hl : ∀ n ∈ l, n < 18446744073709551616) (hn : l.length ≤ 200) : ∃ x : ByteArray, bl x = bl s ++ nums l ∧ x.size ≤ 10000 ∧
    (∀ v W, Sl W v l.length 1 (u64w l) → Calls Tryz.prog 8 #[.string s, v] W fun e w' => e = .returned (.string x) ∧ Kp none' W w') ∧
    (∀ g W m, l.length = m → W.heap[g]? = some (.cells (u64w l).toArray 24 (0, 0)) → Calls Tryz.prog 8 #[.string s, .slice (some ⟨g, 0, none⟩) m m] W fun e w' => e = .returned (.string x) ∧ Kp none' W w') := by
  have h1 := nums_len l hl
  refine ⟨tx (bl s ++ nums l), bl_tx _, by rw [tx_size, List.length_append, bl_len]; omega, fun v W h => wLine s (by omega) l hl (by omega) v W h, fun g W m hm hg => ?_⟩
  subst hm
  refine wLine s (by omega) l hl (by omega) _ W ⟨by rw [u64w_len]; omega, by omega, _, _, rfl, fun i x hx => ⟨g, 0, rfl, ?_⟩⟩
  simp [World.cell?, hg, hx]
set_option maxRecDepth 100000 in
set_option maxHeartbeats 4000000 in
theorem wStats (r : RpF) (hr : r.ok) (w : World) : Calls Tryz.prog 9 #[.agg (enSt r).toArray] w fun e w' => ∃ v, e = .returned v ∧ Sl w' v (statN r).length 1 (u64w (statN r)) ∧ Kp none' w w' := by
  have hb0 := Blk.new w (enSt r) 29
  have c0 := hb0.cell 0 (v := .int .u64 r.now) rfl
  have c1 := hb0.cell 1 (v := .int .u64 r.tokens) rfl
  have c2 := hb0.cell 2 (v := .int .i64 r.packets) rfl
  have c3 := hb0.cell 3 (v := .int .u64 r.bytes) rfl
  have HR0 : Hid ((w.alloc (.cells (enSt r).toArray 29)).rangeAt w.heap.size 4 (u64w r.ref)) := fun i u hu => hb0.cell (4 + i) (by
    show ([.int .u64 (r.now : Int), .int .u64 (r.tokens : Int), .int .i64 r.packets, .int .u64 (r.bytes : Int)] ++ u64w r.ref)[4 + i]? = _
    rw [List.getElem?_append_right (by simp)]
    rw [show 4 + i - ([.int .u64 (r.now : Int), .int .u64 (r.tokens : Int), .int .i64 r.packets, .int .u64 (r.bytes : Int)] : List Value).length = i by simp]; exact hu)
  have HK0 := Lib.hid ((Kp.refl none' w).alloc (.cells (enSt r).toArray 29))
  have hsz : (w.alloc (.cells (enSt r).toArray 29)).heap.size = w.heap.size + 1 := by show (w.heap.push _).size = _; simp
  have h32 := hr.n32
  have HRF := Lib.hid hr.ref
  have HST : Hid (∀ p : Nat, (p : Int) = max r.packets 0 → statN r = [r.now, r.tokens, p, r.bytes] ++ refN 0 r.ref) := fun p hp => by
    unfold statN; rw [show r.packets.toNat = p by omega]
  obtain ⟨p, hp⟩ : ∃ p : Nat, (p : Int) = max r.packets 0 := ⟨r.packets.toNat, by omega⟩
  have hpk := hr.packets
  have hpp : p < 18446744073709551616 := by omega
  have hwr : IntKind.u64.wrap (p : Int) = p := by rw [IntKind.wrap_u64]; omega
  rw [HST.out p hp]
  have hmx : max r.packets 0 = (p : Int) := hp.symm
  have HIA := Lib.hid infoA32
  generalize enSt r = cs at *
  generalize r.ref = l at *
  generalize r.packets = q at *
  generalize r.now = n0 at *
  generalize r.tokens = n1 at *
  generalize r.bytes = n3 at *
  clear hr HST hp hb0 hpk
  have HR1 : Hid (((w.alloc (.cells cs.toArray 29)).alloc (.cells #[.int .u64 n0, .int .u64 n1, .int .u64 p, .int .u64 n3] 24)).rangeAt w.heap.size 4 (u64w l)) := fun i u hu => ((Kp.refl none' (w.alloc (.cells cs.toArray 29))).alloc _).cell (HR0.out i u hu) id
  have HO0 : Hid (((w.alloc (.cells cs.toArray 29)).alloc (.cells #[.int .u64 n0, .int .u64 n1, .int .u64 p, .int .u64 n3] 24)).ownsRow w.heap.size 24 1 (.slice (some ⟨(w.alloc (.cells cs.toArray 29)).heap.size, 0, none⟩) 4 4) ([n0, n1, p, n3] ++ refN 0 (l.take 0)).length (u64w ([n0, n1, p, n3] ++ refN 0 (l.take 0)))) := own_mk (w.alloc (.cells cs.toArray 29)) w.heap.size (by omega) 24 [.int .u64 n0, .int .u64 n1, .int .u64 p, .int .u64 n3] (by simp)
  have HK1 := Lib.hid (HK0.out.alloc (.cells #[.int .u64 n0, .int .u64 n1, .int .u64 p, .int .u64 n3] 24))
  have HSN : Hid (∀ (i : Nat) (hi : i < l.length), [n0, n1, p, n3] ++ refN 0 (l.take (i + 1)) = ([n0, n1, p, n3] ++ refN 0 (l.take i)) ++ (if 0 < l[i] then [i, l[i]] else [])) := fun i hi => by
    rw [List.take_succ_eq_append_getElem hi, refN_snoc, List.length_take, Nat.min_eq_left (by omega), Nat.zero_add, List.append_assoc]
  have HLEN : Hid (∀ i, ([n0, n1, p, n3] ++ refN 0 (l.take i)).length ≤ 68) := fun i => by
    have := refN_len (l.take i) 0
    rw [List.length_take] at this
    rw [List.length_append]; simp only [List.length_cons, List.length_nil]; omega
  obtain ⟨X, hX⟩ : ∃ X : Nat → List Nat, ∀ i, [n0, n1, p, n3] ++ refN 0 (l.take i) = X i := ⟨_, fun i => rfl⟩
  have hXE : [n0, n1, p, n3] ++ refN 0 l = X 32 := by rw [← hX 32, List.take_of_length_le (by omega)]
  simp only [hX] at HO0 HSN HLEN
  rw [hXE]
  have HAT := Lib.hid (u64w_at l)
  have HIX := Lib.hid (fun i hi v hv W => ixA i hi (u64w l).toArray v hv W)
  clear hX hXE
  go_enter Tryz.func9, Tryz.ntmps9
  go_wp2_with (refine wpList_load_mid rfl 27 (.tmp 17) rfl w.heap.size 4 rfl (u64w l) _ HR1.out Tryz.underlying27 rfl (HIA.out l h32) ?_)
  clear c0 c1 c2 c3 hmx hwr hpp HR0 HK0 HR1 HIA
  rw [hsz] at HO0
  obtain ⟨W0, hW0⟩ : ∃ W0, ((w.alloc (.cells cs.toArray 29)).alloc (.cells #[.int .u64 n0, .int .u64 n1, .int .u64 p, .int .u64 n3] 24)) = W0 := ⟨_, rfl⟩
  rw [hW0] at HO0 HK1 ⊢
  clear hW0 hsz
  have hB : w.heap.size ≤ W0.heap.size := HK1.out.size
  go_wp2_with fail
  go_loopw [3, 19] (fun v0 i0 wr => ∃ i : Nat, i0 = .int .i64 i ∧ i ≤ 32 ∧ Hid (wr.ownsRow w.heap.size 24 1 v0 (X i).length (u64w (X i))) ∧ Hid (Kp none' w wr)) (fun _ i0 _ => 32 - (intOf i0).toNat)
  case atStart => exact ⟨0, rfl, by omega, HO0, HK1⟩
  case round =>
    obtain ⟨i, rfl, hi, HO, HK⟩ := hrel
    obtain ⟨xo, xc, rfl⟩ := own_shape HO.out
    have hz := HK.out.size
    by_cases hlt : i < 32
    · have hki : (i : Int) < 32 := by omega
      obtain ⟨n, hn⟩ : ∃ n, l[i]'(by omega) = n := ⟨_, rfl⟩
      have hn64 : n < 18446744073709551616 := by rw [← hn]; exact HRF.out _ (List.getElem_mem _)
      have HS := Lib.hid (HSN.out i (by omega))
      have hix := HIX.out i hlt (.int .u64 n) (by rw [List.getElem?_toArray, HAT.out i (by omega), hn])
      rw [hn] at HS
      clear hn
      by_cases h0 : 0 < n
      · have h0' : (0 : Int) < (n : Int) := by omega
        have hwi : IntKind.u64.wrap (i : Int) = i := by rw [IntKind.wrap_u64]; omega
        have hln := HLEN.out i
        have HX : Hid (u64w (X (i + 1)) = u64w (X i) ++ [.int .u64 i, .int .u64 n]) := by show _ = _; rw [HS.out, if_pos h0, u64w_app]; rfl
        have HXL : Hid ((X (i + 1)).length = (X i).length + 2) := by show _ = _; rw [HS.out, if_pos h0]; simp
        clear HS h0
        go_wp2_with (at_builtin; refine wp_appN tU64w (.tmp 25) (.tmp 29) rfl rfl w.heap.size (HO.out.alloc _) (b := wr.heap.size) (off := 0) (m := 2) (c := 2) [.int .u64 i, .int .u64 n] rfl rfl rfl (fun j u hu => (Blk.new wr [.int .u64 i, .int .u64 n] 24).cell (0 + j) (by rw [Nat.zero_add]; exact hu)) rfl (by omega) (by omega) (by simp; omega) ?_)
        intro v3 w3 hown3 hgrow
        have HO3 : Hid (w3.ownsRow w.heap.size 24 1 v3 (X (i + 1)).length (u64w (X (i + 1)))) := by rw [HXL.out, HX.out]; exact hown3
        have HK3 : Hid (Kp none' w w3) := (HK.out.alloc _).grown hgrow (fun b e => .inr (own_block HO.out e).1)
        clear hown3 hgrow
        go_wp2_with fail
        go_roundw
        case rel => exact ⟨i + 1, by go_num, by omega, HO3.out, HK3.out⟩
        case measure => simp [intOf]; omega
      · have h00 : n = 0 := by omega
        subst h00
        have HX : Hid (X (i + 1) = X i) := by show _ = _; rw [HS.out, if_neg (by omega), List.append_nil]
        clear HS h0
        go_wp2_with fail
        go_roundw
        case rel => exact ⟨i + 1, by go_num, by omega, by rw [HX.out]; exact HO.out, HK.out⟩
        case measure => simp [intOf]; omega
    · have hke : i = 32 := by omega
      subst hke
      have HSL := Lib.hid (own_sl HO.out)
      go_wp2_with fail
      go_ret
      exact ⟨_, rfl, HSL.out, HK.out⟩
end Go.Proofs.YtacgabagfdlpeaaGreatDoor
