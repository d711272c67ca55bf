/- Walks of layer 33: Put. -/
import Derived.Test.YtfckgddodjmbdaaGreatDoorMDeviceNobodyF35
import Derived.Test.YtfckgddodjmbdaaGreatDoorMDeviceNobodyF37
import Derived.Test.YtfckgddodjmbdaaGreatDoorMDeviceNobodyF41
import Derived.Test.YtfckgddodjmbdaaGreatDoorMDeviceNobodyF0
import Derived.Test.YtfckgddodjmbdaaGreatDoorMDeviceNobodyF36
import Derived.Test.YtfckgddodjmbdaaGreatDoorMDeviceNobodyF1
namespace Go.Proofs.YtfckgddodjmbdaaGreatDoor
set_option linter.unusedVariables false
set_option linter.unusedSimpArgs false
open Go Go.RowKit Go.Shelf
theorem cat_size (a b : ByteArray) : (a ++ b).size = a.size + b.size := by rw [← bl_len, bl_app, List.length_append, bl_len, bl_len]
theorem hv_size (l : List Nat) : (tx (hvL l)).size = 2 * l.length := by rw [tx_size, hv_len]
def pA (h : HdR) (n : Nat) : List Nat := [17664 + h.ds * 4, n + 28, h.id, 0, h.ttl * 256 + 17]
def pB (h : HdR) : List Nat := [h.s / 65536, h.s % 65536, h.d / 65536, h.d % 65536]
def pD (h : HdR) (n : Nat) : List Nat := [h.sp, h.p, n + 8, 0]
theorem top_put (h : HdR) (n : Nat) : bl (tx (hvL (pA h n)) ++ ⟨#[0, 0]⟩ ++ tx (hvL (pB h))) = frontL h n ++ ([0, 0] ++ backL h) := by
  rw [bl_app, bl_app, bl_tx, bl_tx]
  have e : bl ⟨#[0, 0]⟩ = [0, 0] := rfl
  rw [e]
  simp only [hvL, pA, pB, frontL, backL, List.flatMap_cons, List.flatMap_nil, List.append_nil, List.append_assoc]
theorem put_str (h : HdR) (b : ByteArray) : tx (hvL (pA h b.size)) ++ tx (hvL [inetL (frontL h b.size ++ ([0, 0] ++ backL h))]) ++ tx (hvL (pB h)) ++ tx (hvL (pD h b.size)) ++ b = tx (putL h (bl b)) := by
  apply str_ext
  rw [bl_app, bl_app, bl_app, bl_app, bl_tx, bl_tx, bl_tx, bl_tx, bl_tx]
  unfold putL
  rw [bl_len]
  simp only [hvL, pA, pB, pD, frontL, backL, List.flatMap_cons, List.flatMap_nil, List.append_nil, List.append_assoc]
theorem halves_new (l : List Nat) (hl : ∀ x ∈ l, x < 65536) (h0 : 0 < l.length) (hn : l.length ≤ 1000) (W : World) : Calls Tryz.prog 59 #[.slice (some ⟨W.heap.size, 0, none⟩) l.length l.length] (W.alloc (.cells (u16c l).toArray 54)) fun e w' => e = .returned (.string (tx (hvL l))) ∧ Kp none' W w' := by
  refine (hHalves l hl h0 hn _ _ ⟨by simp [u16c], by omega, _, _, rfl, fun i u hu => ⟨_, 0, rfl, by rw [Nat.zero_add]; exact (Blk.new W (u16c l) 54).cell i hu⟩⟩).mono ?_
  rintro e w' ⟨h1, h2⟩
  exact ⟨h1, ((Kp.refl none' W).alloc _).trans h2⟩
set_option maxRecDepth 100000 in
set_option maxHeartbeats 2000000 in
theorem hPutOk (h : HdR) (hh : h.Fit) (hd : h.ds ≤ 63) (b : ByteArray) (hb : b.size ≤ 65507) (w : World) :
    Calls Tryz.prog 27 #[.agg (enHd h).toArray, .string b] w fun e w' => e = .returned (.tuple #[.string (tx (putL h (bl b))), .int .i64 0]) ∧ Kp none' w w' := by
  have q1 := hh.ok.s
  have q2 := hh.ok.d
  have q3 := hh.ok.p
  have q4 := hh.id
  have q5 := hh.ttl
  have q6 := hh.sp
  have hA := halves_new (pA h b.size) (fun x hx => by simp only [pA, List.mem_cons, List.not_mem_nil, or_false] at hx; omega) (by show 0 < 5; decide) (by show 5 ≤ _; decide)
  have hB := halves_new (pB h) (fun x hx => by simp only [pB, List.mem_cons, List.not_mem_nil, or_false] at hx; omega) (by show 0 < 4; decide) (by show 4 ≤ _; decide)
  have hD := halves_new (pD h b.size) (fun x hx => by simp only [pD, List.mem_cons, List.not_mem_nil, or_false] at hx; omega) (by show 0 < 4; decide) (by show 4 ≤ _; decide)
  have hT := top_put h b.size
  have hP := put_str h b
  have sA := hv_size (pA h b.size)
  have sB := hv_size (pB h)
  have sD := hv_size (pD h b.size)
  obtain ⟨I, hI⟩ : ∃ I, inetL (frontL h b.size ++ ([0, 0] ++ backL h)) = I := ⟨_, rfl⟩
  have hIl : I < 65536 := by rw [← hI]; exact inetL_lt _
  have hC := halves_new [I] (fun x hx => by simp only [List.mem_cons, List.not_mem_nil, or_false] at hx; omega) (by show 0 < 1; decide) (by show 1 ≤ _; decide)
  have sC := hv_size [I]
  rw [hI] at hP
  obtain ⟨tA, eA⟩ : ∃ t, tx (hvL (pA h b.size)) = t := ⟨_, rfl⟩
  obtain ⟨tB, eB⟩ : ∃ t, tx (hvL (pB h)) = t := ⟨_, rfl⟩
  obtain ⟨tC, eC⟩ : ∃ t, tx (hvL [I]) = t := ⟨_, rfl⟩
  obtain ⟨tD, eD⟩ : ∃ t, tx (hvL (pD h b.size)) = t := ⟨_, rfl⟩
  rw [eA] at hA hT hP sA
  rw [eB] at hB hT hP sB
  rw [eC] at hC hP sC
  rw [eD] at hD hP sD
  have sA : tA.size = 10 := sA
  have sB : tB.size = 8 := sB
  have sC : tC.size = 2 := sC
  have sD : tD.size = 8 := sD
  have x1 := cat_run (P := Tryz.prog) tA ⟨#[0, 0]⟩ (by rw [sA]; show 10 + 2 ≤ _; decide)
  have s1 : (tA ++ ⟨#[0, 0]⟩ : ByteArray).size = 12 := by rw [cat_size, sA]; rfl
  have x2 := cat_run (P := Tryz.prog) (tA ++ ⟨#[0, 0]⟩) tB (by rw [s1, sB]; decide)
  have x3 := cat_run (P := Tryz.prog) tA tC (by omega)
  have s3 : (tA ++ tC).size = 12 := by rw [cat_size]; omega
  have x4 := cat_run (P := Tryz.prog) (tA ++ tC) tB (by omega)
  have s4 : (tA ++ tC ++ tB).size = 20 := by rw [cat_size]; omega
  have x5 := cat_run (P := Tryz.prog) (tA ++ tC ++ tB) tD (by omega)
  have s5 : (tA ++ tC ++ tB ++ tD).size = 28 := by rw [cat_size]; omega
  have x6 := cat_run (P := Tryz.prog) (tA ++ tC ++ tB ++ tD) b (by omega)
  obtain ⟨T, hTe⟩ : ∃ T, tA ++ ⟨#[0, 0]⟩ ++ tB = T := ⟨_, rfl⟩
  rw [hTe] at hT x2
  have hTs : T.size = 20 := by rw [← hTe, cat_size]; omega
  have hin := fun W => calls_same (hInet T (by omega) W)
  rw [hT, hI] at hin
  have HIN := Lib.hid hin
  rw [← hP]
  clear hP hT hI hTe hTs hin eA eB eC eD s1 s3 s4 s5 sA sB sC sD
  obtain ⟨ds, id, ttl, s, d, sp, p⟩ := h
  simp only [pA, pB, pD, u16c, List.map_cons, List.map_nil, List.length_cons, List.length_nil] at hA hB hC hD
  simp only at q1 q2 q3 q4 q5 q6 hd
  rw [show ((17664 + ds * 4 : Nat) : Int) = 17664 + (ds : Int) * 4 by omega, show ((b.size + 28 : Nat) : Int) = (b.size : Int) + 28 by omega, show ((ttl * 256 + 17 : Nat) : Int) = (ttl : Int) * 256 + 17 by omega] at hA
  have HA : Hid (∀ W, Calls Tryz.prog 59 #[.slice (some ⟨W.heap.size, 0, none⟩) 5 5] (W.alloc (.cells #[.int .u16 (17664 + (ds : Int) * 4), .int .u16 ((b.size : Int) + 28), .int .u16 id, .int .u16 0, .int .u16 ((ttl : Int) * 256 + 17)] 54)) fun e w' => e = .returned (.string tA) ∧ Kp none' W w') := Lib.hid hA
  rw [show ((s / 65536 : Nat) : Int) = (s : Int) / 65536 by omega, show ((s % 65536 : Nat) : Int) = (s : Int) % 65536 by omega, show ((d / 65536 : Nat) : Int) = (d : Int) / 65536 by omega, show ((d % 65536 : Nat) : Int) = (d : Int) % 65536 by omega] at hB
  have HB : Hid (∀ W, Calls Tryz.prog 59 #[.slice (some ⟨W.heap.size, 0, none⟩) 4 4] (W.alloc (.cells #[.int .u16 ((s : Int) / 65536), .int .u16 ((s : Int) % 65536), .int .u16 ((d : Int) / 65536), .int .u16 ((d : Int) % 65536)] 54)) fun e w' => e = .returned (.string tB) ∧ Kp none' W w') := Lib.hid hB
  have HC : Hid (∀ W, Calls Tryz.prog 59 #[.slice (some ⟨W.heap.size, 0, none⟩) 1 1] (W.alloc (.cells #[.int .u16 I] 54)) fun e w' => e = .returned (.string tC) ∧ Kp none' W w') := Lib.hid hC
  rw [show ((b.size + 8 : Nat) : Int) = (b.size : Int) + 28 - 20 by omega] at hD
  have HD : Hid (∀ W, Calls Tryz.prog 59 #[.slice (some ⟨W.heap.size, 0, none⟩) 4 4] (W.alloc (.cells #[.int .u16 sp, .int .u16 p, .int .u16 ((b.size : Int) + 28 - 20), .int .u16 0] 54)) fun e w' => e = .returned (.string tD) ∧ Kp none' W w') := Lib.hid hD
  clear hA hB hC hD
  have i1 : ¬ (63 : Int) < ds := by omega
  have i2 : ¬ (65507 : Int) < b.size := by omega
  have HH0 := Lib.hid (Blk.new w [.int .u8 ds, .int .u16 id, .int .u8 ttl, .int .u32 s, .int .u32 d, .int .u16 sp, .int .u16 p] 56)
  have HK0 := Lib.hid ((Kp.refl none' w).alloc (.cells #[.int .u8 ds, .int .u16 id, .int .u8 ttl, .int .u32 s, .int .u32 d, .int .u16 sp, .int .u16 p] 56))
  simp only [enHd]
  go_enter Tryz.func27, Tryz.ntmps27
  go_wp2_with fail
  have ha := HA.out (w.alloc (.cells #[.int .u8 ds, .int .u16 id, .int .u8 ttl, .int .u32 s, .int .u32 d, .int .u16 sp, .int .u16 p] 56))
  rw [World.size_alloc] at ha
  refine ha.mono ?_
  clear ha
  rintro e w1 ⟨rfl, hk1⟩
  have HK1 := Lib.hid (HK0.out.trans hk1)
  have HH1 := Lib.hid (HH0.out.kp hk1 (fun x => x))
  clear hk1 HH0 HK0 HA
  have c13 := HH1.out.cell 3 rfl
  have c14 := HH1.out.cell 4 rfl
  have c15 := HH1.out.cell 5 rfl
  have c16 := HH1.out.cell 6 rfl
  go_wp2_with fail
  refine (HB.out _).mono ?_
  rintro e w2 ⟨rfl, hk2⟩
  have HK2 := Lib.hid (HK1.out.trans hk2)
  have HH2 := Lib.hid (HH1.out.kp hk2 (fun x => x))
  clear c13 c14 c15 c16 hk2 HH1 HK1
  go_wp2_with fail
  refine (HIN.out _).mono ?_
  rintro e w3 ⟨rfl, hk3⟩
  have HK3 := Lib.hid (HK2.out.trans hk3)
  have HH3 := Lib.hid (HH2.out.kp hk3 (fun x => x))
  clear hk3 HH2 HK2
  go_wp2_with fail
  refine (HC.out _).mono ?_
  rintro e w4 ⟨rfl, hk4⟩
  have HK4 := Lib.hid (HK3.out.trans hk4)
  have HH4 := Lib.hid (HH3.out.kp hk4 (fun x => x))
  clear hk4 HH3 HK3
  have c43 := HH4.out.cell 3 rfl
  have c44 := HH4.out.cell 4 rfl
  have c45 := HH4.out.cell 5 rfl
  have c46 := HH4.out.cell 6 rfl
  go_wp2_with fail
  refine (HD.out _).mono ?_
  rintro e w5 ⟨rfl, hk5⟩
  have HK5 := Lib.hid (HK4.out.trans hk5)
  have HH5 := Lib.hid (HH4.out.kp hk5 (fun x => x))
  clear c43 c44 c45 c46 hk5 HH4 HK4
  go_wp2_with fail
  go_ret2
  exact ⟨rfl, HK5.out⟩
end Go.Proofs.YtfckgddodjmbdaaGreatDoor

namespace Go.Proofs.YtfckgddodjmbdaaGreatDoor
set_option linter.unusedVariables false
set_option linter.unusedSimpArgs false
open Go Go.RowKit Go.Shelf Go.Maps
def hd9 : HdR := ⟨0, 0, 9, 0, 0, 0, 0⟩
def body4 : ByteArray := ⟨#[98, 111, 100, 121]⟩
def datX : List UInt8 := putL hd9 (bl body4)
def datY : List UInt8 := hopL datX
theorem x_take : takeE datX = 0 := by decide +kernel
theorem x_flow : flowN rlS (takeH datX).n = some 1 := by decide +kernel
theorem x_hop : hopE datX = 0 := by decide +kernel
theorem x_len : datX.length = 32 := by decide +kernel
theorem y_take : takeE datY = 0 := by decide +kernel
theorem y_ttl : (takeH datY).ttl = 8 := by decide +kernel
theorem y_body : datY.drop 28 = [98, 111, 100, 121] := by decide +kernel
theorem y_len : datY.length = 32 := by decide +kernel
def poS : Po := poNew pcS (.hp 0 [])
theorem s_may : mayG poS.s.g 1 32 = 0 := by decide +kernel
theorem s_deq1 : (deqS (enqS poS.s 1 1 32).2).1[1]? = some (.int .i64 0) := by kernel_rfl
theorem s_deq3 : (deqS (enqS poS.s 1 1 32).2).1[3]? = some (.int .u32 1) := by kernel_rfl
theorem pcS_ok : pcS.Ok := by
  refine ⟨⟨by show _ ≤ (2 : Int) ∧ (2 : Int) ≤ _; omega, by show _ ≤ (1 : Int) ∧ (1 : Int) ≤ _; omega, by show _ ≤ (1 : Int) ∧ (1 : Int) ≤ _; omega, by show _ ≤ (2 : Int) ∧ (2 : Int) ≤ _; omega, by show _ ≤ (9 : Int) ∧ (9 : Int) ≤ _; omega, by show 5000 < M64; decide, by show _ ≤ (0 : Int) ∧ (0 : Int) ≤ _; omega, by show 1000 < M64; decide, by show 1000 < M64; decide, by show 1000 < M64; decide, fun f hf => ?_⟩, fun r hr => ?_, by decide, by decide, by decide, by decide⟩
  · have : f = ⟨1, 1, 10, 0, 5000⟩ ∨ f = ⟨2, 1, 20, 0, 50⟩ := by simpa [pcS, cS, flowsS] using hf
    rcases this with rfl | rfl
    · exact ⟨by decide, by decide, by decide, by decide, by decide⟩
    · exact ⟨by decide, by decide, by decide, by decide, by decide⟩
  · have : r = ⟨(0, 0), (0, 0), 0, 65535, 1⟩ := by simpa [pcS, rlS] using hr
    subst this
    exact ⟨⟨by decide, by decide, by decide⟩, ⟨by decide, by decide, by decide⟩, by decide, by decide, by decide⟩
theorem pcS_good : pcS.Good := ⟨by decide, by decide +kernel, .inl rfl, by decide⟩

theorem blk_sl {w : World} {b : Nat} {cs : List Value} {t : TypeId} (h : Blk w b cs t) (n sz : Nat) (hl : cs.length = n * sz) (hn : n ≤ 1000000) : Sl w (.slice (some ⟨b, 0, none⟩) n n) n sz cs :=
  ⟨hl, by omega, _, _, rfl, fun i u hu => ⟨b, 0, rfl, by rw [Nat.zero_add]; exact h.cell i hu⟩⟩
theorem newS (w : World) (b b2 : Nat) (h : Blk w b (flowsS.flatMap enFl) 158) (h2 : Blk w b2 (rlS.flatMap enR7) 160) :
    Calls Tryz.prog 25 #[.agg (enPc pcS (.slice (some ⟨b, 0, none⟩) 2 2) (.slice (some ⟨b2, 0, none⟩) 1 1)).toArray] w fun e w' => ∃ f, e = .returned (.tuple #[.pointer (some ⟨f.pb, 0, none⟩), .int .i64 0]) ∧ PoM w' f poS ∧ (∀ b, f.all b → w.heap.size ≤ b) ∧ w.heap.size ≤ f.lo ∧ Kp none' w w' :=
  pNew0 pcS pcS_ok pcS_good rfl (by decide) _ _ w (blk_sl h 2 5 rfl (by decide)) (blk_sl h2 1 7 rfl (by decide)) (.hp 0 []) rfl trivial
    (fun W _ => (madeH cS _ W rfl (by decide) (by decide)).mono fun e w' ⟨b, F, h1, h2, h3, h4⟩ => ⟨hpV b, F, h1, ⟨b, rfl, h2⟩, h3, h4⟩)
def poS1 : Po := { poS with m := (colP poS.m 32).1, s := (enqS poS.s 1 1 32).2, num := 1, wt := fun k => if k = 1 then datY else poS.wt k }
theorem x_size : (tx datX).size = 32 := by rw [tx_size, x_len]
theorem arrS {w : World} {f : PoF} (h : PoM w f poS) (hT : Tab w) :
    Calls Tryz.prog 5 #[.pointer (some ⟨f.pb, 0, none⟩), .string (tx datX)] w fun e w' => e = .returned (.tuple #[.int .u32 1, .int .i64 0]) ∧ PoTo w f poS1 w' := by
  have := pArrGYes h hT (tx datX) (by rw [x_size]; decide) (by rw [bl_tx]; exact x_take) 1 (by rw [bl_tx]; exact x_flow) (by rw [bl_tx]; exact x_hop) (pCol0 poS _ rfl) rfl (by show 0 < _; decide) (by show 0 + 1 < _; decide) (by rw [x_size]; exact s_may)
  rw [x_size, bl_tx] at this
  exact this
theorem leaS {w : World} {f : PoF} (h : PoM w f poS1) :
    Calls Tryz.prog 6 #[.pointer (some ⟨f.pb, 0, none⟩)] w fun e w' => e = .returned (.tuple #[.string (tx datY), .int .i64 0]) ∧ ∃ p2 : Po, p2.num = 1 ∧ PoTo w f p2 w' := by
  refine (pLeaYes h 1 (by decide) s_deq1 s_deq3 (by decide +kernel)).mono ?_
  rintro e w' ⟨rfl, h2⟩
  exact ⟨rfl, _, rfl, h2⟩
theorem y_str : (tx datY).extract 28 (tx datY).size = ⟨#[98, 111, 100, 121]⟩ := by
  apply str_ext
  rw [bl_cut, bl_tx, y_body, tx_size, y_len]
  rfl
set_option maxRecDepth 100000 in
set_option maxHeartbeats 2000000 in
theorem livesP (w : World) (hT : Tab w) : Calls Tryz.prog 10 #[] w fun e w' => e = .returned (.bool true) ∧ Kp none' w w' := by
  have HS := Lib.hid (fun W => someP W)
  have hpu := fun W => hPutOk hd9 ⟨⟨by decide, by decide, by decide⟩, by decide, by decide, by decide, by decide⟩ (by decide) body4 (by decide) W
  have HPU : Hid (∀ W, Calls Tryz.prog 27 #[.agg #[.int .u8 0, .int .u16 0, .int .u8 9, .int .u32 0, .int .u32 0, .int .u16 0, .int .u16 0], .string ⟨#[98, 111, 100, 121]⟩] W fun e w' => e = .returned (.tuple #[.string (tx datX), .int .i64 0]) ∧ Kp none' W w') := Lib.hid hpu
  have ht := fun W => hTakeOk (tx datY) (by rw [tx_size, y_len]; decide) (by rw [bl_tx]; exact y_take) W
  rw [y_str, bl_tx] at ht
  have HTK := Lib.hid ht
  obtain ⟨H, hH⟩ : ∃ H, takeH datY = H := ⟨_, rfl⟩
  have h8 := y_ttl
  rw [hH] at HTK h8
  obtain ⟨ds, id, ttl, sr, d, sp, dp⟩ := H
  simp only at h8
  subst h8
  simp only [enHd] at HTK
  have HT := Lib.hid hT
  clear hpu ht hH hT
  go_enter Tryz.func10, Tryz.ntmps10
  go_wp2_with fail
  refine (HS.out _).mono ?_
  rintro e w1 ⟨b, b2, rfl, hb, hb2, hl1, hl2, hk1⟩
  have HK1 := Lib.hid hk1
  have HN := Lib.hid (newS w1 b b2 hb hb2)
  clear hb hb2 hl1 hl2 hk1
  go_wp2_with fail
  refine (HN.out).mono ?_
  rintro e w2 ⟨f, rfl, hpo, hfa, hlo, hk2⟩
  have HPO2 := Lib.hid hpo
  have HFA := Lib.hid (fun b hb => Nat.le_trans HK1.out.size (hfa b hb))
  have HK2 := Lib.hid (HK1.out.trans hk2)
  obtain ⟨pb, hpb⟩ : ∃ pb, f.pb = pb := ⟨_, rfl⟩
  have HPB := Lib.hid hpb
  rw [hpb]
  clear hpo hfa hlo hk2 hpb HN
  go_wp2_with fail
  refine (HPU.out _).mono ?_
  rintro e w3 ⟨rfl, hk3⟩
  have HK3 := Lib.hid (HK2.out.trans hk3)
  have ha := arrS (HPO2.out.old hk3) (HT.out.kp HK3.out (fun x => x))
  rw [HPB.out] at ha
  have HA := Lib.hid ha
  clear hk3 ha HPO2 HK2
  go_wp2_with fail
  refine (HA.out).mono ?_
  rintro e w4 ⟨rfl, f4, hm4, hk4, hn4, hpb4, _, _⟩
  have HK4 : Hid (Kp none' w w4) := Lib.hid (HK3.out.then hk4 (fun i hi h => by have := HFA.out i h; omega))
  have hfa4 : ∀ b, f4.all b → w.heap.size ≤ b := fun b hb => by
    rcases hn4 b hb with e | e
    · exact HFA.out b e
    · have := HK3.out.size; omega
  have HFA4 := Lib.hid hfa4
  have hl := leaS hm4
  rw [hpb4, HPB.out] at hl
  have HL := Lib.hid hl
  have HPB4 : Hid (f4.pb = pb) := Lib.hid (by rw [hpb4, HPB.out])
  clear hm4 hk4 hn4 hpb4 hfa4 hl HA HK3
  go_wp2_with fail
  refine (HL.out).mono ?_
  rintro e w5 ⟨rfl, p2, hp2, f5, hm5, hk5, hn5, hpb5, _, _⟩
  have HK5 : Hid (Kp none' w w5) := Lib.hid (HK4.out.then hk5 (fun i hi h => by have := HFA4.out i h; omega))
  have HM5 := Lib.hid hm5
  have HPB5 : Hid (f5.pb = pb) := Lib.hid (by rw [hpb5, HPB4.out])
  have HP2 := Lib.hid hp2
  clear hm5 hk5 hn5 hpb5 hp2 HL HK4
  go_wp2_with fail
  refine (HTK.out _).mono ?_
  rintro e w6 ⟨rfl, hk6⟩
  have hk6' := hk6.alloc (.cells #[.int .u8 ds, .int .u16 id, .int .u8 8, .int .u32 sr, .int .u32 d, .int .u16 sp, .int .u16 dp] 56)
  have HK6 := Lib.hid (HK5.out.trans hk6')
  have hnm := pNum (HM5.out.old hk6')
  rw [HPB5.out, HP2.out] at hnm
  have HNM := Lib.hid hnm
  clear hk6 hk6' hnm HM5 HK5
  go_wp2_with fail
  refine (HNM.out).mono ?_
  rintro e w7 ⟨rfl, rfl⟩
  go_wp2_with fail
  go_ret
  exact ⟨rfl, HK6.out⟩
end Go.Proofs.YtfckgddodjmbdaaGreatDoor

namespace Go.Proofs.YtfckgddodjmbdaaGreatDoor
set_option linter.unusedVariables false
set_option linter.unusedSimpArgs false
open Go Go.RowKit Go.Shelf
set_option maxRecDepth 100000 in
set_option maxHeartbeats 2000000 in
theorem nobodyD0 (s : ByteArray) (i : Int) (w : World) (hlives : ∀ W, Kp none' w W → Calls Tryz.prog 17 #[] W fun e w' => e = .returned (.bool true) ∧ Kp none' W w') : Calls Tryz.prog 4 #[.string s, .int .i64 i] w fun e w' => e = .returned (.bool true) ∧ Kp none' w w' := by
  have HA := Lib.hid (fun W => nDIn s W)
  have HC := Lib.hid (fun W => nDTick 1 W)
  have HL := Lib.hid (fun W => nDStep W)
  have HB := Lib.hid (fun W => nBoxed i W)
  have HR := Lib.hid (fun W => nRefused i 7 W)
  have HS := Lib.hid (fun W => nDStats i W)
  have HV := Lib.hid hlives
  have heq : ∀ W, (binOp .eql 33 (.agg zSt.toArray) (.agg #[.int .u64 0, .int .u64 0, .int .i64 0, .int .u64 0, .int .u64 0, .int .u64 0, .int .u64 0, .int .u64 0, .int .u64 0, .int .u64 0, .int .u64 0, .int .u64 0, .int .u64 0, .int .u64 0, .int .u64 0, .int .u64 0, .int .u64 0, .int .u64 0, .int .u64 0, .int .u64 0, .int .u64 0, .int .u64 0, .int .u64 0, .int .u64 0, .int .u64 0, .int .u64 0, .int .u64 0, .int .u64 0, .int .u64 0, .int .u64 0, .int .u64 0, .int .u64 0, .int .u64 0, .int .u64 0, .int .u64 0, .int .u64 0])).run Tryz.prog W = .ok (.bool true) W := fun _ => by kernel_rfl
  clear hlives
  go_enter Tryz.func4, Tryz.ntmps4
  go_wp2_with fail
  refine (HA.out _).mono ?_
  rintro e w1 ⟨rfl, rfl⟩
  go_wp2_with fail
  refine (HC.out _).mono ?_
  rintro e w2 ⟨rfl, rfl⟩
  go_wp2_with fail
  refine (HL.out _).mono ?_
  rintro e w3 ⟨rfl, rfl⟩
  go_wp2_with fail
  refine (HB.out _).mono ?_
  rintro e w4 ⟨rfl, rfl⟩
  go_wp2_with fail
  refine (HR.out _).mono ?_
  rintro e w5 ⟨rfl, rfl⟩
  go_wp2_with fail
  refine (HS.out _).mono ?_
  rintro e w6 ⟨rfl, hk6⟩
  have HK6 := Lib.hid hk6
  clear hk6
  go_wp2_with fail
  refine (HV.out _ HK6.out).mono ?_
  rintro e w7 ⟨rfl, hk7⟩
  have HK7 := Lib.hid (HK6.out.trans hk7)
  clear hk7
  go_wp2_with fail
  go_ret
  exact ⟨rfl, HK7.out⟩

theorem lnP_set : ∀ (l : List Ln) (i : Nat) (m : Ln) (h : i < l.length), m.lb = l[i].lb → (l.set i m).flatMap lnP = l.flatMap lnP
  | a :: l, 0, m, _, e => by
    have e : m.lb = a.lb := e
    simp [List.flatMap_cons, lnP, e]
  | a :: l, i + 1, m, h, e => by
    have := lnP_set l i m (by simpa using h) (by simpa using e)
    simp only [List.set_cons_succ, List.flatMap_cons, this]
theorem DvM.apart {w : World} {d : DvR} (h : DvM w d) {i j : Nat} (hi : i < d.ls.length) (hj : j < d.ls.length) (hij : i ≠ j) : ∀ x, d.ls[i].far x → ¬ d.ls[j].far x := fun x h1 h2 => by
  rcases Nat.lt_or_ge i j with e | e
  · exact List.pairwise_iff_getElem.1 h.sep i j hi hj e x h1 h2
  · exact List.pairwise_iff_getElem.1 h.sep j i hj hi (by omega) x h2 h1
theorem DvM.upd {T : Nat → Prop} {w w' : World} {d : DvR} (h : DvM w d) {i : Nat} (hi : i < d.ls.length) (m : Ln) (k : Kp T w w') (hT : ∀ x, x < w.heap.size → T x → d.ls[i].all x) (hm : LnM w' d.room m) (hlb : m.lb = d.ls[i].lb) (hn : ∀ x, m.far x → d.ls[i].far x ∨ w.heap.size ≤ x) : DvM w' { d with ls := d.ls.set i m } := by
  have hlh := h.lh
  have hlo := h.lo
  have hsz := h.hsz
  have hmem : d.ls[i] ∈ d.ls := List.getElem_mem hi
  have hat := h.at_ _ hmem
  have hTf : ∀ x, x < w.heap.size → T x → d.thi ≤ x ∧ d.v.ownBlock ≠ some x := fun x h1 h2 => hat x (.inl (hT x h1 h2))
  have hk : Kp (fun x => x < w.heap.size ∧ T x) w w' := ⟨k.os, k.tape, k.output, k.size, fun b hb hs => k.block b hb (fun e => hs ⟨hb, e⟩)⟩
  have hlen : (d.ls.set i m).length = d.ls.length := List.length_set
  refine ⟨?_, ?_, ?_, hlo, h.hi, h.his, Nat.le_trans hsz k.size, ?_, ?_, ?_⟩
  · exact h.top.kp hk (fun e => by have := (hTf _ e.1 e.2).1; omega)
  · have := own_kp h.row hk (fun b e e2 => (hTf b e2.1 e2.2).2 e)
    show w'.ownsRow d.thi 94 1 d.v (d.ls.set i m).length ((d.ls.set i m).flatMap lnP)
    rw [hlen, lnP_set _ _ _ hi hlb]
    exact this
  · exact tabKp h.tab hk (fun e => by have := (hTf d.tb e.1 e.2).1; have := h.hi; omega) (fun b hb e => by have := (hTf b e.1 e.2).1; have := h.his b hb; omega)
  · intro a ha
    obtain ⟨j, hj, rfl⟩ := List.mem_iff_getElem.1 ha
    by_cases e : i = j
    · subst e
      rw [List.getElem_set_self]
      exact hm
    · rw [List.getElem_set_ne e]
      have hj2 : j < d.ls.length := by rw [← hlen]; exact hj
      exact (h.ln _ (List.getElem_mem hj2)).kp hk (fun x hx e2 => h.apart hi hj2 e x (.inl (hT x e2.1 e2.2)) hx)
  · intro a ha x hx
    obtain ⟨j, hj, rfl⟩ := List.mem_iff_getElem.1 ha
    by_cases e : i = j
    · subst e
      rw [List.getElem_set_self] at hx
      rcases hn x hx with h1 | h1
      · exact hat x h1
      · exact ⟨Nat.le_trans hsz h1, fun e => by have := (own_block h.row e).2; omega⟩
    · rw [List.getElem_set_ne e] at hx
      exact h.at_ _ (List.getElem_mem (by rw [← hlen]; exact hj)) x hx
  · refine List.pairwise_iff_getElem.2 fun a b ha hb hab x h1 h2 => ?_
    have ha2 : a < d.ls.length := by rw [← hlen]; exact ha
    have hb2 : b < d.ls.length := by rw [← hlen]; exact hb
    by_cases e : i = a
    · subst e
      have e2 : i ≠ b := by omega
      rw [List.getElem_set_self] at h1
      rw [List.getElem_set_ne e2] at h2
      rcases hn x h1 with h3 | h3
      · exact h.apart hi hb2 e2 x h3 h2
      · have := (h.ln _ (List.getElem_mem hb2)).lt h2; omega
    · rw [List.getElem_set_ne e] at h1
      by_cases e2 : i = b
      · subst e2
        rw [List.getElem_set_self] at h2
        rcases hn x h2 with h3 | h3
        · exact h.apart hi ha2 e x h3 h1
        · have := (h.ln _ (List.getElem_mem ha2)).lt h1; omega
      · rw [List.getElem_set_ne e2] at h2
        exact h.apart ha2 hb2 (by omega) x h1 h2

structure LsI (w wr : World) (l : Ln) (room : Nat) (q' : List ByteArray) (f : PoF) (p : Po) : Prop where
  ln : LnM wr room { l with f := f, p := p, q := q' }
  kp : Kp l.all w wr
  nw : Nw w l.f.all f.all
  pb : f.pb = l.f.pb
  lo : f.lo = l.f.lo
  hi : f.hi = l.f.hi
theorem LsI.to {w wr w2 : World} {l : Ln} {room : Nat} {q' : List ByteArray} {f : PoF} {p p' : Po} (h : LsI w wr l room q' f p) (t : PoTo wr f p' w2) : ∃ f', LsI w w2 l room q' f' p' ∧ Kp f.all wr w2 ∧ Nw wr f.all f'.all := by
  obtain ⟨f', hm, hk, hn, h1, h2, h3⟩ := t
  have hl := h.ln
  have n3 : ∀ x, x < wr.heap.size → ¬ f.all x → ¬ f'.all x := fun x hx hf hf' => by
    rcases hn x hf' with e | e
    · exact hf e
    · omega
  have t0 : l.lb < wr.heap.size := hl.top.lt
  have t1 : l.xb < wr.heap.size := hl.bx.top.lt
  have t2 : l.xc < wr.heap.size := hl.bx.clt
  refine ⟨f', ⟨⟨?_, hm, hl.bx.kp hk hl.d4 hl.d5, hl.nrf, hl.d1, hl.d2, n3 _ t0 hl.d3, n3 _ t1 hl.d4, n3 _ t2 hl.d5, fun x a b => hl.d6 x (by show f.lo ≤ x; rw [← h2]; exact a) (by show x < f.hi; rw [← h3]; exact b)⟩, ?_, ?_, h1.trans h.pb, h2.trans h.lo, h3.trans h.hi⟩, hk, hn⟩
  · have := hl.top.kp hk hl.d3
    have e : lnC { l with f := f', p := p', q := q' } = lnC { l with f := f, p := p, q := q' } := by
      show Value.pointer (some ⟨f'.pb, 0, none⟩) :: _ = Value.pointer (some ⟨f.pb, 0, none⟩) :: _
      rw [h1]
    show Blk w2 l.lb (lnC { l with f := f', p := p', q := q' }) _
    rw [e]
    exact this
  · refine h.kp.then hk (fun x hx e => ?_)
    rcases h.nw x e with e2 | e2
    · exact .inr (.inr (.inr e2))
    · omega
  · intro x hx
    rcases hn x hx with e | e
    · exact h.nw x e
    · exact .inr (Nat.le_trans h.kp.size e)
end Go.Proofs.YtfckgddodjmbdaaGreatDoor
