/- AddrBack (layer 31): for every address, prefix and text, in every memory where the row's tables hold what is laid, the law returns true and its arguments read as before; the card ties the tables to the program's text. No further condition. -/
import Derived.Test.YtgkncanfmojdbaaDoorAddrTab
import Derived.Test.YtgkncanfmojdbaaDoorAddrB
import Derived.ChangeMaps5
namespace Go.Proofs.YtgkncanfmojdbaaDoor.addrBack
set_option linter.unusedVariables false
set_option linter.unusedSimpArgs false
open Go.ChangeShapes Go.WideShapes Go.ChangeAt Go.RowKit Go.Deep Go.Proofs.YtgkncanfmojdbaaDoor Go.ChangeMaps

set_option maxHeartbeats 1000000 in
theorem law (a pa : Nat) (b : Int) (s : ByteArray) (w : World) (hx : MX w) (ha : a < 4294967296) (hpa : pa < 4294967296) (hb : -9223372036854775808 ≤ b ∧ b ≤ 9223372036854775807) :
    Calls Tryd.prog 6 #[.int .u32 a, .agg #[.int .u32 pa, .int .i64 b], .string s] w fun e w' => e = .returned (.bool true) ∧ Kp none' w w' := by
  by_cases hs : 300 < s.size
  · have HL := Lib.hid (fun W (hW : MX W) => lives W hW)
    have HX := Lib.hid hx
    have hlt : (300 : Int) < (s.size : Int) := by omega
    have HK : Hid (Kp none' w (w.alloc (.cells #[.int .u32 pa, .int .i64 b] 30))) := (Kp.refl _ _).alloc _
    clear hx hs
    go_enter Tryd.func6, Tryd.ntmps6
    go_wp2_with fail
    refine (HL.out _ (HX.out.kp HK.out)).mono ?_
    rintro e w1 ⟨rfl, k⟩
    have K := Lib.hid (HK.out.trans k); clear k
    go_wp2_with fail
    go_ret
    exact ⟨rfl, K.out⟩
  · cases hr : rightB pa b <;> by_cases hc : (readA (bl s)).2 = 0 <;> by_cases hq : (readP (bl s)).2 = 0
    · exact back011 a pa b s w hx ha hpa hb hs hr hc hq
    · exact back010 a pa b s w hx ha hpa hb hs hr hc hq
    · exact back001 a pa b s w hx ha hpa hb hs hr hc hq
    · exact back000 a pa b s w hx ha hpa hb hs hr hc hq
    · exact back111 a pa b s w hx ha hpa hb hs hr hc hq
    · exact back110 a pa b s w hx ha hpa hb hs hr hc hq
    · exact back101 a pa b s w hx ha hpa hb hs hr hc hq
    · exact back100 a pa b s w hx ha hpa hb hs hr hc hq

theorem contract (H : Type) (enc : TypeId × Value → H) (W : World) (base : Nat) (args : Array Value) (ds gs : List (DataW H)) (before : List MemPlace)
    (hval : ∀ (j : Nat) t v, Tryd.f6.params[j]? = some t → args[j]? = some v → Value.okWide Tryd.prog W .any base t v)
    (hW : DataW.Whole enc Tryd.prog Tryd.f6.params.toList Rows.addrBackSpec.vars false W args.toList ds gs before) (hsh : W.ShapedOpen Tryd.prog) :
    Calls Tryd.prog 6 args W fun e W' => ∃ v, e = .returned v ∧ Rows.addrBackSpec.post enc Tryd.prog Tryd.f6 false true false false W args v W' := by
  have hW' := hW
  obtain ⟨p, q, hA0, hV, rfl, hfz, hnd⟩ := hW
  have hA : DataW.TrodAll enc Tryd.prog W 0 (fun _ => true) true Tryd.f6.params.toList args.toList ds p := hA0
  rw [Tryd.params6] at hA hval
  obtain ⟨v0, vs0, d0, ds0, p0, q0, hargs, rfl, rfl, h0, r0⟩ := trodAll_cons hA
  obtain ⟨v1, vs1, d1, ds1, p1, q1, rfl, rfl, rfl, h1, r1⟩ := trodAll_cons r0
  obtain ⟨v2, vs2, d2, ds2, p2, q2, rfl, rfl, rfl, h2, r2⟩ := trodAll_cons r1
  obtain ⟨rfl, rfl, rfl⟩ := trodAll_nil r2
  obtain rfl : args = #[v0, v1, v2] := by cases args; simp_all
  obtain ⟨x, rfl, hx⟩ := open32 (hval 0 23 v0 rfl rfl) h0
  obtain ⟨a, b, rfl, ha, hb⟩ := openPrefix (hval 1 30 v1 rfl rfl) h1
  obtain ⟨s0, rfl, rfl, rfl, w0⟩ := open_string Tryd.underlying9 (hval 2 9 v2 rfl rfl) h2
  refine (law x a b s0 W (mx_of hsh) hx ha hb).mono ?_
  rintro e W' ⟨rfl, hk⟩
  exact ⟨_, rfl, law_post 4 Tryd.underlying4 rfl (by kernel_rfl) (by rw [Tryd.params6]; intro t ht; simp at ht; rcases ht with rfl | rfl | rfl; all_goals exact ⟨by kernel_rfl, of_decide_eq_true (by kernel_rfl)⟩) rfl hW' rfl (hk.below (Nat.le_refl _) (fun _ _ h => h))⟩

theorem reads (os : Os) {H : Type} (enc : TypeId × Value → H) : ∃ places, DataW.whole enc Tryd.prog ((laidWorld os).forCall (fun _ _ => 0) ⟨#[], #[.int .u32 0, .agg #[.int .u32 0, .int .i64 0], .string ByteArray.empty], []⟩).memory Tryd.f6.params.toList Rows.addrBackSpec.vars false #[Value.int .u32 0, Value.agg #[.int .u32 0, .int .i64 0], Value.string ByteArray.empty].toList 8 = some ([.lit (.int .u32 0), .agg [.lit (.int .u32 0), .lit (.int .i64 0)], .lit (.string [])], [], places) :=
  ⟨[], by kernel_rfl⟩

set_option maxRecDepth 100000 in
theorem lifted (os : Os) (started : os.Started) (H : Type) (enc : TypeId × Value → H) (F : Stop.Interp) :
    ReturnsInHanded {} Tryd.checked os 6 .any ((OpenSpec.ofChange Rows.addrBackSpec).preRow enc Tryd.prog Tryd.f6 Rows.addrBackRow.domain false Rows.addrBackRow.laid) (((OpenSpec.ofChange Rows.addrBackSpec).at F).post enc Tryd.prog Tryd.f6 false true false false) := by
  obtain ⟨places, hx⟩ := reads os enc
  refine returnsInHanded_of_row (C := Tryd.checked) (s := OpenSpec.ofChange Rows.addrBackSpec) own31 started (by kernel_rfl) Tryd.func6
    (witness_row_at (enc := enc) (C := Tryd.checked) false (laidWorld os) #[.int .u32 0, .agg #[.int .u32 0, .int .i64 0], .string ByteArray.empty] rfl (by kernel_rfl) (by kernel_rfl) (by kernel_rfl)
      (OpenSpec.preRow_of_cond 8 hx (by kernel_rfl) (fun k hk => by cases hk) (by kernel_rfl) (laid_met os _))) ?_
  intro W base args ds gs before hval hW _ _ _ _ hsh _
  exact contract H enc W base args ds gs before hval hW hsh

theorem said : Rows.AddrBackSaid :=
  OpenClaim.holds_of_cond 6 Tryd.f6 rfl rfl rfl rfl rfl rfl rfl ⟨rfl, rfl, rfl, rfl, rfl⟩ rfl rfl rfl rfl rfl (by kernel_rfl) Tryd.func6 (by kernel_rfl)
    (of_decide_eq_true (by kernel_rfl)) (by unfold Func.isWrapper; first | (rw [if_pos (by decide +kernel)]; kernel_rfl) | (rw [if_neg (by decide +kernel)]; exact ⟨rfl, rfl⟩))
    (fun os started H enc _ F => by rw [OpenClaim.pre_eq_preRow]; exact lifted os started H enc F)

theorem plain (f : FuncId) (fn : Func) (hf : Tryd.pinned.checked.prog.funcNamed "pacemaker/pacemakerlaw31.AddrBack" = some f) (hfn : Tryd.pinned.checked.prog.funcs[f]? = some fn) :
    false = Tryd.pinned.checked.prog.looks [] ∧ ∀ (j : Nat) t, fn.params[j]? = some t → Tryd.pinned.checked.prog.wantsStandIn t = false := by
  obtain rfl : f = 6 := Option.some.inj ((show Tryd.prog.funcNamed "pacemaker/pacemakerlaw31.AddrBack" = some 6 by kernel_rfl).symm.trans hf) |>.symm
  obtain rfl : fn = Tryd.f6 := (Option.some.inj (Tryd.func6.symm.trans hfn)).symm
  refine ⟨by kernel_rfl, fun j t ht => ?_⟩
  rw [Tryd.params6] at ht
  have hm := Array.mem_of_getElem? ht
  simp at hm
  rcases hm with rfl | rfl | rfl
  · exact (show Tryd.prog.wantsStandIn 23 = false by kernel_rfl)
  · exact (show Tryd.prog.wantsStandIn 30 = false by kernel_rfl)
  · exact (show Tryd.prog.wantsStandIn 9 = false by kernel_rfl)

theorem card : Rows.AddrBackCardSaid :=
  Claim7.holds_tied_plain_at .later [] _ _ _ _ said (fun _ h => by cases h) (by kernel_rfl) (fun _ h => by cases h) addrBack_row_tie rfl ⟨rfl, rfl⟩ (by kernel_rfl) rfl plain (by kernel_rfl)
#print axioms card
end Go.Proofs.YtgkncanfmojdbaaDoor.addrBack
