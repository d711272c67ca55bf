/- Walk of layer 40: a reader reads a state. -/
import Derived.Test.YtlaakhfgidjofaaGreatDoorMSnapNobodyF17
import Derived.Test.YtlaakhfgidjofaaGreatDoorMSnapNobodyF13
import Derived.Laws.CopyOwn
namespace Go.Proofs.YtlaakhfgidjofaaGreatDoor
set_option linter.unusedVariables false
set_option linter.unusedSimpArgs false
open Go Go.RowKit Go.Shelf
def wtB (x : Wt) : List UInt8 := vb x.rank ++ (be 4 x.flow ++ (be 4 x.id ++ vb x.len))
def quB (q : List Wt) : List UInt8 := vb q.length ++ q.flatMap wtB
theorem flat2 {α β γ : Type} (f : α → List β) (g : β → List γ) (l : List α) : (l.flatMap f).flatMap g = l.flatMap fun a => (f a).flatMap g := List.flatMap_assoc
theorem wtB_eq (x : Wt) : fdsB (wtF x) = wtB x := by simp [fdsB, wtF, wtB, fdB]
theorem quB_eq (q : List Wt) : fdsB (quF q) = quB q := by
  unfold quF quB fdsB
  rw [List.flatMap_cons, flat2]
  have : (fun a => (wtF a).flatMap fdB) = wtB := funext wtB_eq
  rw [this]; rfl
theorem stB_eq (s : StS) : fdsB (stF s) = vb s.now ++ (vb s.tok ++ (vb s.virt ++ (nsB s.ref ++ (nsB s.tags ++ (nsB s.bounds ++ (vb s.qs.length ++ s.qs.flatMap quB)))))) := by
  have e1 : ∀ a b, fdsB (a ++ b) = fdsB a ++ fdsB b := fun a b => by simp [fdsB]
  have e2 : fdsB (s.qs.flatMap quF) = s.qs.flatMap quB := by
    unfold fdsB; rw [flat2]
    have : (fun a => (quF a).flatMap fdB) = quB := funext quB_eq
    rw [this]
  unfold stF
  rw [e1, e1, e1, e1, e1, nsB_eq, nsB_eq, nsB_eq, e2]
  simp [fdsB, fdB]
theorem qus_len (l : List (List Wt)) : l.length ≤ (l.flatMap quB).length := by
  induction l with
  | nil => simp
  | cons a l ih =>
    have := vb_len a.length
    rw [List.flatMap_cons, List.length_append, List.length_cons]
    have e : (quB a).length = (vb a.length).length + (a.flatMap wtB).length := by unfold quB; rw [List.length_append]
    omega
theorem wts_len (l : List Wt) : l.length ≤ (l.flatMap wtB).length := by
  induction l with
  | nil => simp
  | cons a l ih =>
    have := vb_len a.rank
    rw [List.flatMap_cons, List.length_append, List.length_cons]
    have e : (wtB a).length = (vb a.rank).length + (be 4 a.flow ++ (be 4 a.id ++ vb a.len)).length := by unfold wtB; rw [List.length_append]
    omega
def stC (now tok virt : Nat) (ref : List Nat) (vt vb vq : Value) : List Value := [.int .u64 now, .int .u64 tok, .int .u64 virt] ++ (n8s ref ++ [vt, vb, vq])
theorem n8s_len (l : List Nat) : (n8s l).length = l.length := by simp [n8s]
theorem stC_len (now tok virt : Nat) (ref : List Nat) (h : ref.length = 32) (vt vb vq : Value) : (stC now tok virt ref vt vb vq).length = 38 := by simp [stC, n8s_len, h]
def QO (w : World) (B : Nat) : List Value → List (List Wt) → Prop
  | [], [] => True
  | v :: vs, q :: qs => w.ownsRow B 73 4 v q.length (q.flatMap enWt) ∧ QO w B vs qs
  | [], _ :: _ => False
  | _ :: _, [] => False
theorem QO.kp {S : Nat → Prop} {w w' : World} {B : Nat} : ∀ {vs : List Value} {qs : List (List Wt)}, QO w B vs qs → Kp S w w' → (∀ j, B ≤ j → (∃ cs fr, w.heap[j]? = some (.cells cs 73 fr)) → ¬ S j) → QO w' B vs qs
  | [], [], _, _, _ => trivial
  | _ :: _, _ :: _, h, k, hS => ⟨own_kp h.1 k (fun b hb => by obtain ⟨cur, e⟩ := own_type h.1 hb; exact hS b (own_block h.1 hb).1 ⟨_, _, e⟩), QO.kp h.2 k hS⟩
  | [], _ :: _, h, _, _ => h.elim
  | _ :: _, [], h, _, _ => h.elim
theorem QO.old {w w' : World} {B : Nat} {vs : List Value} {qs : List (List Wt)} (h : QO w B vs qs) (k : Kp none' w w') : QO w' B vs qs := h.kp k (fun _ _ _ x => x)
theorem QO.len {w : World} {B : Nat} : ∀ {vs : List Value} {qs : List (List Wt)}, QO w B vs qs → vs.length = qs.length
  | [], [], _ => rfl
  | _ :: _, _ :: _, h => congrArg (· + 1) (QO.len h.2)
  | [], _ :: _, h => h.elim
  | _ :: _, [], h => h.elim
theorem QO.snoc {w : World} {B : Nat} {v : Value} {q : List Wt} (hv : w.ownsRow B 73 4 v q.length (q.flatMap enWt)) : ∀ {vs : List Value} {qs : List (List Wt)}, QO w B vs qs → QO w B (vs ++ [v]) (qs ++ [q])
  | [], [], _ => ⟨hv, trivial⟩
  | _ :: _, _ :: _, h => ⟨h.1, QO.snoc hv h.2⟩
  | [], _ :: _, h => h.elim
  | _ :: _, [], h => h.elim
theorem QO.base {w : World} {B B' : Nat} (hB : B' ≤ B) : ∀ {vs : List Value} {qs : List (List Wt)}, QO w B vs qs → QO w B' vs qs
  | [], [], _ => trivial
  | _ :: _, _ :: _, h => ⟨own_base h.1 hB, QO.base hB h.2⟩
  | [], _ :: _, h => h.elim
  | _ :: _, [], h => h.elim
theorem stOne (now tok virt : Nat) (ref : List Nat) {vt vb vq : Value} (h1 : vt.oneCell' = true) (h2 : vb.oneCell' = true) (h3 : vq.oneCell' = true) : ∀ v ∈ stC now tok virt ref vt vb vq, v.oneCell' = true := by
  intro v hv
  unfold stC at hv
  simp only [List.mem_append, List.mem_cons, List.not_mem_nil, or_false, n8s, List.mem_map] at hv
  rcases hv with (rfl | rfl | rfl) | ⟨n, _, rfl⟩ | rfl | rfl | rfl <;> first | rfl | assumption
theorem st_splice (now tok virt : Nat) (z ref : List Nat) (hz : z.length = 32) (hr : ref.length = 32) (vt vb vq : Value) : (stC now tok virt z vt vb vq).toArray.toList.take 3 ++ (n8s ref ++ (stC now tok virt z vt vb vq).toArray.toList.drop (3 + (n8s ref).length)) = stC now tok virt ref vt vb vq := by
  have e : (n8s z).length = 32 := by rw [n8s_len, hz]
  have e2 : (n8s ref).length = 32 := by rw [n8s_len, hr]
  rw [e2]
  unfold stC
  have h1 : ([.int .u64 now, .int .u64 tok, .int .u64 virt] ++ (n8s z ++ [vt, vb, vq]) : List Value).toArray.toList = [.int .u64 now, .int .u64 tok, .int .u64 virt] ++ (n8s z ++ [vt, vb, vq]) := rfl
  rw [h1]
  have h2 : ([.int .u64 now, .int .u64 tok, .int .u64 virt] ++ (n8s z ++ [vt, vb, vq]) : List Value).drop (3 + 32) = [vt, vb, vq] := by
    rw [List.drop_append, List.drop_eq_nil_of_le (by simp)]
    simp [List.drop_append, e]
  rw [h2]; rfl
theorem n8s_one (l : List Nat) : ∀ v ∈ n8s l, v.oneCell' = true := by
  intro v hv
  obtain ⟨n, _, rfl⟩ := List.mem_map.1 hv
  rfl
theorem tRk : SlT Tryz.prog 47 73 (.agg #[.int .u64 0, .int .u32 0, .int .u32 0, .int .u64 0]) 4 24 := ⟨Tryz.underlying47, by kernel_rfl, rfl, by decide⟩
theorem tQs : SlT Tryz.prog 28 47 (.slice none 0 0) 1 24 := ⟨Tryz.underlying28, by kernel_rfl, rfl, by decide⟩
theorem infoU8 : (Tryz.prog.info? 22).map (·.size) = some 1 := by kernel_rfl
theorem st_35 (now tok virt : Nat) (ref : List Nat) (hr : ref.length = 32) (vt vb vq : Value) : (stC now tok virt ref vt vb vq)[35]? = some vt := by
  unfold stC; simp [List.getElem?_append, n8s_len, hr]
theorem st_36 (now tok virt : Nat) (ref : List Nat) (hr : ref.length = 32) (vt vb vq : Value) : (stC now tok virt ref vt vb vq)[36]? = some vb := by
  unfold stC; simp [List.getElem?_append, n8s_len, hr]
theorem st_37 (now tok virt : Nat) (ref : List Nat) (hr : ref.length = 32) (vt vb vq : Value) : (stC now tok virt ref vt vb vq)[37]? = some vq := by
  unfold stC; simp [List.getElem?_append, n8s_len, hr]
theorem st_set35 (now tok virt : Nat) (ref : List Nat) (hr : ref.length = 32) (vt vb vq v : Value) : (stC now tok virt ref vt vb vq).set 35 v = stC now tok virt ref v vb vq := by
  unfold stC; simp [List.set_append, n8s_len, hr]
theorem st_set36 (now tok virt : Nat) (ref : List Nat) (hr : ref.length = 32) (vt vb vq v : Value) : (stC now tok virt ref vt vb vq).set 36 v = stC now tok virt ref vt v vq := by
  unfold stC; simp [List.set_append, n8s_len, hr]
theorem st_set37 (now tok virt : Nat) (ref : List Nat) (hr : ref.length = 32) (vt vb vq v : Value) : (stC now tok virt ref vt vb vq).set 37 v = stC now tok virt ref vt vb v := by
  unfold stC; simp [List.set_append, n8s_len, hr]
theorem infoFd : (Tryz.prog.info? 59).map (·.size) = some 3 := by kernel_rfl
theorem infoSt : (Tryz.prog.info? 30).map (·.size) = some 38 := by kernel_rfl
theorem fldNW (k : Int) (n : Nat) (s : ByteArray) : ∀ W, (Instr.field 59 (.agg #[.int .i64 k, .int .u64 n, .string s]) 1).run Tryz.prog W = .ok (.int .u64 n) W := fun W => fldN k n s W
set_option maxRecDepth 100000 in
set_option maxHeartbeats 4000000 in
theorem aState (s : StS) (ok : s.ok) (rest : List UInt8) (hs : (fdsB (stF s) ++ rest).length ≤ 1000000) {r : Nat} {w : World} (hr : Rd w r (fdsB (stF s) ++ rest)) :
    Calls Tryz.prog 73 #[.pointer (some ⟨r, 0, none⟩)] w fun e w' => ∃ vt vb vq vs, e = .returned (.agg (stC s.now s.tok s.virt s.ref vt vb vq).toArray) ∧ w'.ownsRow w.heap.size 22 1 vt s.tags.length (n8s s.tags) ∧ w'.ownsRow w.heap.size 22 1 vb s.bounds.length (n8s s.bounds) ∧
      w'.ownsRow w.heap.size 47 1 vq s.qs.length vs ∧ QO w' w.heap.size vs s.qs ∧ Rd w' r rest ∧ Kp (fun b => b = r) w w' := by
  rw [stB_eq] at hr hs
  simp only [List.append_assoc] at hr hs
  obtain ⟨o1, o2, o3, o4, o5, o6, o7, o8⟩ := ok
  obtain ⟨now, tok, virt, ref, tags, bounds, qs⟩ := s
  simp only at *
  have hlt := Blk.lt hr
  have l1 : (vb tok ++ (vb virt ++ (nsB ref ++ (nsB tags ++ (nsB bounds ++ (vb qs.length ++ (qs.flatMap quB ++ rest))))))).length ≤ 1000000 := by rw [List.length_append] at hs; omega
  have l2 : (vb virt ++ (nsB ref ++ (nsB tags ++ (nsB bounds ++ (vb qs.length ++ (qs.flatMap quB ++ rest)))))).length ≤ 1000000 := by rw [List.length_append] at l1; omega
  have l3 : (nsB ref ++ (nsB tags ++ (nsB bounds ++ (vb qs.length ++ (qs.flatMap quB ++ rest))))).length ≤ 1000000 := by rw [List.length_append] at l2; omega
  have l4 : (nsB tags ++ (nsB bounds ++ (vb qs.length ++ (qs.flatMap quB ++ rest)))).length ≤ 1000000 := by rw [List.length_append] at l3; omega
  have l5 : (nsB bounds ++ (vb qs.length ++ (qs.flatMap quB ++ rest))).length ≤ 1000000 := by rw [List.length_append] at l4; omega
  have l6 : (vb qs.length ++ (qs.flatMap quB ++ rest)).length ≤ 1000000 := by rw [List.length_append] at l5; omega
  have l7 : (qs.flatMap quB ++ rest).length ≤ 1000000 := by rw [List.length_append] at l6; omega
  have H1 := Lib.hid (fun W (h : Rd W r _) => aVr (w := W) now o1 _ hs h)
  have H2 := Lib.hid (fun W (h : Rd W r _) => aVr (w := W) tok o2 _ l1 h)
  have H3 := Lib.hid (fun W (h : Rd W r _) => aVr (w := W) virt o3 _ l2 h)
  have H4 := Lib.hid (fun W (h : Rd W r _) => aNums (w := W) ref o5 _ l3 h)
  have H5 := Lib.hid (fun W (h : Rd W r _) => aNums (w := W) tags o6 _ l4 h)
  have H6 := Lib.hid (fun W (h : Rd W r _) => aNums (w := W) bounds o7 _ l5 h)
  have H7 := Lib.hid (fun W (h : Rd W r _) => aCount (w := W) qs.length (qs.flatMap quB ++ rest) (by have := qus_len qs; rw [List.length_append]; omega) l6 h)
  have hqs : qs.length ≤ 1000000 := by have := qus_len qs; rw [List.length_append] at l7; omega
  have F1 := fldNW 5 now ⟨#[]⟩; have F2 := fldNW 5 tok ⟨#[]⟩; have F3 := fldNW 5 virt ⟨#[]⟩
  have HR := Lib.hid hr
  have L7 := Lib.hid l7
  clear hr hs l1 l2 l3 l4 l5 l6 l7
  go_enter Tryz.func73, Tryz.ntmps73
  go_wp2_with fail
  have hB0 : Blk (w.alloc (.cells #[.int .u64 0, .int .u64 0, .int .u64 0, .int .u64 0, .int .u64 0, .int .u64 0, .int .u64 0, .int .u64 0, .int .u64 0, .int .u64 0, .int .u64 0, .int .u64 0, .int .u64 0, .int .u64 0, .int .u64 0, .int .u64 0, .int .u64 0, .int .u64 0, .int .u64 0, .int .u64 0, .int .u64 0, .int .u64 0, .int .u64 0, .int .u64 0, .int .u64 0, .int .u64 0, .int .u64 0, .int .u64 0, .int .u64 0, .int .u64 0, .int .u64 0, .int .u64 0, .int .u64 0, .int .u64 0, .int .u64 0, .slice none 0 0, .slice none 0 0, .slice none 0 0] 30)) w.heap.size (stC 0 0 0 (List.replicate 32 0) (.slice none 0 0) (.slice none 0 0) (.slice none 0 0)) 30 := Blk.new w _ _
  have hK0 := (Kp.refl none' w).alloc (.cells #[.int .u64 0, .int .u64 0, .int .u64 0, .int .u64 0, .int .u64 0, .int .u64 0, .int .u64 0, .int .u64 0, .int .u64 0, .int .u64 0, .int .u64 0, .int .u64 0, .int .u64 0, .int .u64 0, .int .u64 0, .int .u64 0, .int .u64 0, .int .u64 0, .int .u64 0, .int .u64 0, .int .u64 0, .int .u64 0, .int .u64 0, .int .u64 0, .int .u64 0, .int .u64 0, .int .u64 0, .int .u64 0, .int .u64 0, .int .u64 0, .int .u64 0, .int .u64 0, .int .u64 0, .int .u64 0, .int .u64 0, .slice none 0 0, .slice none 0 0, .slice none 0 0] 30)
  generalize w.alloc (.cells #[.int .u64 0, .int .u64 0, .int .u64 0, .int .u64 0, .int .u64 0, .int .u64 0, .int .u64 0, .int .u64 0, .int .u64 0, .int .u64 0, .int .u64 0, .int .u64 0, .int .u64 0, .int .u64 0, .int .u64 0, .int .u64 0, .int .u64 0, .int .u64 0, .int .u64 0, .int .u64 0, .int .u64 0, .int .u64 0, .int .u64 0, .int .u64 0, .int .u64 0, .int .u64 0, .int .u64 0, .int .u64 0, .int .u64 0, .int .u64 0, .int .u64 0, .int .u64 0, .int .u64 0, .int .u64 0, .int .u64 0, .slice none 0 0, .slice none 0 0, .slice none 0 0] 30) = w0 at *
  have hR0 := HR.out.old hK0
  have hs0 := hK0.size
  have HB0 := Lib.hid hB0; have HK0 := Lib.hid hK0
  refine (H1.out _ hR0).mono ?_
  clear hB0 hK0 hR0 HR
  rintro e w1 ⟨rfl, r1, k1⟩
  have HB1 := Lib.hid (HB0.out.kp k1 (fun e => by omega))
  have HK1 : Hid (Kp (fun b => b = r) w w1) := (HK0.out.mono (fun _ _ x => x.elim)).trans k1
  have R1 := Lib.hid r1
  clear k1 r1 HB0 HK0
  go_wp2_with fail
  refine (H2.out _ R1.out).mono ?_
  rintro e w2 ⟨rfl, r1, k1⟩
  have HB2 := Lib.hid (HB1.out.kp k1 (fun e => by omega))
  have HK2 : Hid (Kp (fun b => b = r) w w2) := HK1.out.trans k1
  have R2 := Lib.hid r1
  clear k1 r1 HB1 HK1 R1
  go_wp2_with fail
  refine (H3.out _ R2.out).mono ?_
  rintro e w3 ⟨rfl, r1, k1⟩
  have HB3 := Lib.hid (HB2.out.kp k1 (fun e => by omega))
  have HK3 : Hid (Kp (fun b => b = r) w w3) := HK2.out.trans k1
  have R3 := Lib.hid r1
  clear k1 r1 HB2 HK2 R2
  go_wp2_with (refine wp_make_row rfl 30 (.tmp 3) (.tmp 16) rfl (stC now tok virt (List.replicate 32 0) (.slice none 0 0) (.slice none 0 0) (.slice none 0 0)) rfl rfl infoSt rfl (stOne _ _ _ _ rfl rfl rfl) ?_)
  intro w4 hB4 hK4
  replace hB4 : Blk w4 w3.heap.size (stC now tok virt (List.replicate 32 0) (.slice none 0 0) (.slice none 0 0) (.slice none 0 0)) 30 := hB4
  have hR4 := R3.out.old hK4
  have hk4 : Kp (fun b => b = r) w w4 := HK3.out.trans (hK4.mono (fun _ _ x => x.elim))
  obtain ⟨z, hz, hzl⟩ : ∃ z : List Nat, List.replicate 32 0 = z ∧ z.length = 32 := ⟨_, rfl, rfl⟩
  have hA4 : Blk w4 w.heap.size (stC 0 0 0 (List.replicate 32 0) (.slice none 0 0) (.slice none 0 0) (.slice none 0 0)) 30 := HB3.out.kp hK4 id
  rw [hz] at hB4 hA4
  obtain ⟨sb, hsb⟩ : ∃ sb, w3.heap.size = sb := ⟨_, rfl⟩
  have hsb0 : w.heap.size < sb := by have := HB3.out.lt; omega
  rw [hsb] at hB4
  have R4 := Lib.hid hR4; have B4 := Lib.hid hB4; have A4 := Lib.hid hA4; have K4 := Lib.hid hk4
  have HZ := Lib.hid hzl
  have HL := Lib.hid o4
  clear hB4 hK4 hR4 hk4 hA4 hz hzl R3 HB3 HK3 o4
  simp only [hsb]
  clear hsb
  go_wp2_with fail
  refine (H4.out _ R4.out).mono ?_
  rintro e w5 ⟨v, rfl, ho, r1, k1⟩
  rw [HL.out] at ho
  obtain ⟨g, cap, rfl, hg⟩ := own_shape1 ho (by decide)
  have hcap := own_fullC1 ho
  have B5 := Lib.hid (B4.out.kp k1 (fun e => by omega)); have A5 := Lib.hid (A4.out.kp k1 (fun e => by omega))
  have K5 : Hid (Kp (fun b => b = r) w w5) := K4.out.trans k1
  have R5 := Lib.hid r1
  have O5 := Lib.hid ho
  have f5 := fun j => B5.out.fz j
  clear ho r1 k1 R4 B4 A4 K4 hg
  have hcp : ∀ j v, (n8s ref)[j]? = some v → w5.cell? ((⟨g, 0, none⟩ : Addr).add j) = some v := fun j v hv => by rw [add_plain, Nat.zero_add]; exact own_cell O5.out j hv
  have hnl : (n8s ref).length = Nat.min 32 32 := by rw [n8s_len, HL.out]; rfl
  have hfit : 3 + (n8s ref).length ≤ (stC now tok virt z (.slice none 0 0) (.slice none 0 0) (.slice none 0 0)).toArray.size := by rw [List.size_toArray, stC_len _ _ _ _ HZ.out, n8s_len, HL.out]; omega
  have hspl := st_splice now tok virt z ref HZ.out HL.out (.slice none 0 0) (.slice none 0 0) (.slice none 0 0)
  have hrun := run_copy_row (P := Tryz.prog) w5 27 27 3 22 sb 3 32 32 ⟨g, 0, none⟩ 32 cap _ _ (n8s ref) Tryz.underlying27 infoU8 B5.out.is hnl hcp hfit (n8s_one _)
  rw [List.append_assoc, hspl, n8s_len, HL.out] at hrun
  have hb6 := blkSetRow (cs := stC now tok virt ref (.slice none 0 0) (.slice none 0 0) (.slice none 0 0)) B5.out
  clear hcp hnl hfit hspl f5
  have HB6 := Lib.hid hb6
  clear hb6
  go_wp2_with fail
  have B6 := HB6
  have A6 : Hid (Blk (w5.setRow sb (stC now tok virt ref (.slice none 0 0) (.slice none 0 0) (.slice none 0 0)).toArray) w.heap.size (stC 0 0 0 z (.slice none 0 0) (.slice none 0 0) (.slice none 0 0)) 30) := blkSetRowNe A5.out (by omega) _
  have K6 : Hid (Kp (fun b => b = r) w (w5.setRow sb (stC now tok virt ref (.slice none 0 0) (.slice none 0 0) (.slice none 0 0)).toArray)) := kpSetRow K5.out (.inr (by omega)) _
  have R6 : Hid (Rd (w5.setRow sb (stC now tok virt ref (.slice none 0 0) (.slice none 0 0) (.slice none 0 0)).toArray) r (nsB tags ++ (nsB bounds ++ (vb qs.length ++ (qs.flatMap quB ++ rest))))) := blkSetRowNe R5.out (by omega) _
  generalize w5.setRow sb (stC now tok virt ref (.slice none 0 0) (.slice none 0 0) (.slice none 0 0)).toArray = w6 at *
  clear B5 A5 K5 R5 O5 HB6
  refine (H5.out _ R6.out).mono ?_
  rintro e w7 ⟨vt, rfl, ho, r1, k1⟩
  obtain ⟨ta, tcap, rfl⟩ := own_shape ho
  have B7 := Lib.hid (B6.out.kp k1 (fun e => by omega)); have A7 := Lib.hid (A6.out.kp k1 (fun e => by omega))
  have K7 : Hid (Kp (fun b => b = r) w w7) := K6.out.trans k1
  have R7 := Lib.hid r1
  have T7 : Hid (w7.ownsRow w.heap.size 22 1 (.slice ta tags.length tcap) tags.length (n8s tags)) := own_base ho K6.out.size
  have tl : ∀ b, (Value.slice ta tags.length tcap).ownBlock = some b → w6.heap.size ≤ b := fun b hb => (own_block ho hb).1
  have hsb6 := B6.out.lt
  have f7 := fun j => B7.out.fz j
  have c35 : w7.cell? ⟨sb, 35, none⟩ = some (.slice none 0 0) := B7.out.cell 35 (st_35 _ _ _ _ HL.out _ _ _)
  clear ho r1 k1 R6 B6 A6 K6
  go_wp2_with fail
  have tB8 := B7.out.set 35 (.slice ta tags.length tcap)
  rw [st_set35 _ _ _ _ HL.out] at tB8
  have B8 := Lib.hid tB8
  have A8 := Lib.hid (A7.out.setNe (a := ⟨sb, 35, none⟩) (by show w.heap.size ≠ sb; omega) (.slice ta tags.length tcap))
  have K8 : Hid (Kp (fun b => b = r) w _) := K7.out.set (p := ⟨sb, 35, none⟩) (.inr (by show w.heap.size ≤ sb; omega)) (.slice ta tags.length tcap)
  have R8 : Hid (Rd _ r (nsB bounds ++ (vb qs.length ++ (qs.flatMap quB ++ rest)))) := Blk.setNe R7.out (a := ⟨sb, 35, none⟩) (by show r ≠ sb; omega) (.slice ta tags.length tcap)
  have T8 := Lib.hid (own_setNe T7.out (a := ⟨sb, 35, none⟩) (fun b hb e => by have := tl b hb; have e : b = sb := e; omega) (.slice ta tags.length tcap))
  have tl8 : ∀ b, (Value.slice ta tags.length tcap).ownBlock = some b → b ≠ sb := fun b hb e => by have := tl b hb; omega
  generalize w7.setCell ⟨sb, 35, none⟩ (.slice ta tags.length tcap) = w8 at *
  clear tB8 B7 A7 K7 R7 T7 f7 c35 tl hsb6
  refine (H6.out _ R8.out).mono ?_
  rintro e w9 ⟨vb', rfl, ho, r1, k1⟩
  obtain ⟨ua, ucap, rfl⟩ := own_shape ho
  have B9 := Lib.hid (B8.out.kp k1 (fun e => by omega)); have A9 := Lib.hid (A8.out.kp k1 (fun e => by omega))
  have K9 : Hid (Kp (fun b => b = r) w w9) := K8.out.trans k1
  have R9 := Lib.hid r1
  have T9 := Lib.hid (own_kp T8.out k1 (fun b hb e => by have := (own_block T8.out hb).1; omega))
  have U9 : Hid (w9.ownsRow w.heap.size 22 1 (.slice ua bounds.length ucap) bounds.length (n8s bounds)) := own_base ho K8.out.size
  have tl : ∀ b, (Value.slice ua bounds.length ucap).ownBlock = some b → b ≠ sb := fun b hb e => by have := (own_block ho hb).1; have := B8.out.lt; omega
  have f9 := fun j => B9.out.fz j
  have c36 : w9.cell? ⟨sb, 36, none⟩ = some (.slice none 0 0) := B9.out.cell 36 (st_36 _ _ _ _ HL.out _ _ _)
  clear ho r1 k1 R8 B8 A8 K8 T8
  go_wp2_with fail
  have tB8 := B9.out.set 36 (.slice ua bounds.length ucap)
  rw [st_set36 _ _ _ _ HL.out] at tB8
  have B8 := Lib.hid tB8
  have A8 := Lib.hid (A9.out.setNe (a := ⟨sb, 36, none⟩) (by show w.heap.size ≠ sb; omega) (.slice ua bounds.length ucap))
  have K8 : Hid (Kp (fun b => b = r) w _) := K9.out.set (p := ⟨sb, 36, none⟩) (.inr (by show w.heap.size ≤ sb; omega)) (.slice ua bounds.length ucap)
  have R8 : Hid (Rd _ r (vb qs.length ++ (qs.flatMap quB ++ rest))) := Blk.setNe R9.out (a := ⟨sb, 36, none⟩) (by show r ≠ sb; omega) (.slice ua bounds.length ucap)
  have T8 := Lib.hid (own_setNe T9.out (a := ⟨sb, 36, none⟩) (fun b hb e => tl8 b hb e) (.slice ua bounds.length ucap))
  have U8 := Lib.hid (own_setNe U9.out (a := ⟨sb, 36, none⟩) (fun b hb e => tl b hb e) (.slice ua bounds.length ucap))
  generalize w9.setCell ⟨sb, 36, none⟩ (.slice ua bounds.length ucap) = w10 at *
  clear tB8 B9 A9 K9 R9 T9 U9 f9 c36
  refine (H7.out _ R8.out).mono ?_
  rintro e w11 ⟨rfl, r1, k1⟩
  have BL := Lib.hid (B8.out.kp k1 (fun e => by omega)); have AL := Lib.hid (A8.out.kp k1 (fun e => by omega))
  have KL : Hid (Kp (fun b => b = r) w w11) := K8.out.trans k1
  have RL := Lib.hid r1
  have TL := Lib.hid (own_kp T8.out k1 (fun b hb e => by have := (own_block T8.out hb).1; omega))
  have UL := Lib.hid (own_kp U8.out k1 (fun b hb e => by have := (own_block U8.out hb).1; omega))
  have hszL := KL.out.size
  have hsbL := BL.out.lt
  clear r1 k1 R8 B8 A8 K8 T8 U8 H1 H2 H3 H4 H5 H6 H7 o1 o2 o3 o5 o6 o7 F1 F2 F3
  go_wp2_with fail
  go_loopw [36] (fun i wr => ∃ (j : Nat) (vs : List Value) (vq : Value), i = .int .i64 j ∧ j ≤ qs.length ∧ Hid (wr.ownsRow w11.heap.size 47 1 vq j vs ∧ QO wr w11.heap.size vs (qs.take j) ∧ Rd wr r ((qs.drop j).flatMap quB ++ rest) ∧ Blk wr sb (stC now tok virt ref (.slice ta tags.length tcap) (.slice ua bounds.length ucap) vq) 30 ∧ Kp (fun b => b = r ∨ b = sb) w11 wr)) (fun i _ => qs.length - (intOf i).toNat)
  case atStart => exact ⟨0, [], _, rfl, by omega, World.ownsRow_nil _ _ _ _, trivial, RL.out, BL.out, Kp.refl _ _⟩
  case round =>
    obtain ⟨j, vs, vq, rfl, hj, hrr⟩ := hrel
    obtain ⟨wo, hwo⟩ : ∃ wo : World, wo = wr := ⟨_, rfl⟩
    subst hwo
    by_cases hlt2 : j < qs.length
    · obtain ⟨Q, hQ⟩ : ∃ Q, qs[j] = Q := ⟨_, rfl⟩
      have hd : qs.drop j = Q :: qs.drop (j + 1) := by rw [← hQ]; exact List.drop_eq_getElem_cons hlt2
      have hTk : qs.take (j + 1) = qs.take j ++ [Q] := by rw [List.take_succ_eq_append_getElem hlt2, hQ]
      have hoQ : ∀ x ∈ Q, x.ok := by rw [← hQ]; exact o8 _ (List.getElem_mem hlt2)
      obtain ⟨p1, p2, p3, p4, p5⟩ := hrr.out
      have hle : ((qs.drop j).flatMap quB).length ≤ (qs.flatMap quB).length := by
        have : qs.flatMap quB = (qs.take j).flatMap quB ++ (qs.drop j).flatMap quB := by rw [← List.flatMap_append, List.take_append_drop]
        rw [this, List.length_append]; omega
      have hbl : ((qs.drop j).flatMap quB ++ rest).length ≤ 1000000 := by have := L7.out; rw [List.length_append] at this ⊢; omega
      obtain ⟨rs, hrs⟩ : ∃ rs, (qs.drop (j + 1)).flatMap quB ++ rest = rs := ⟨_, rfl⟩
      have e1 : (qs.drop j).flatMap quB ++ rest = vb Q.length ++ (Q.flatMap wtB ++ rs) := by
        rw [hd, List.flatMap_cons, List.append_assoc, hrs]; unfold quB; rw [List.append_assoc]
      rw [e1] at p3 hbl
      have hbl2 : (Q.flatMap wtB ++ rs).length ≤ 1000000 := by rw [List.length_append] at hbl; omega
      have HC := Lib.hid (aCount Q.length (Q.flatMap wtB ++ rs) (by have := wts_len Q; rw [List.length_append]; omega) hbl p3)
      have hQl : Q.length ≤ 1000000 := by have := wts_len Q; rw [List.length_append] at hbl2; omega
      have P1 := Lib.hid p1; have P2 := Lib.hid p2; have P4 := Lib.hid p4; have P5 := Lib.hid p5
      have hRs := Lib.hid hrs; have HTk := Lib.hid hTk; have HOQ := Lib.hid hoQ; have HBL := Lib.hid hbl2
      have hszo := p5.size
      clear p1 p2 p3 p4 p5 hrr e1 hbl hbl2 hle hd hTk hrs hQ hoQ
      go_wp2_with fail
      refine (HC.out).mono ?_
      rintro e w1 ⟨rfl, r1, k1⟩
      have N3 := Lib.hid r1; have N5 := Lib.hid k1
      clear r1 k1 HC
      go_wp2_with fail
      go_loopw [5, 40] (fun q i wr => ∃ k : Nat, i = .int .i64 k ∧ k ≤ Q.length ∧ Hid (wr.ownsRow wo.heap.size 73 4 q k ((Q.take k).flatMap enWt) ∧ Rd wr r ((Q.drop k).flatMap wtB ++ rs) ∧ Kp (fun b => b = r) wo wr)) (fun _ i _ => Q.length - (intOf i).toNat)
      case atStart => exact ⟨0, rfl, by omega, World.ownsRow_nil _ _ _ _, N3.out, N5.out⟩
      case round =>
        obtain ⟨k, rfl, hk, hrr⟩ := hrel
        obtain ⟨p1, p3, p5⟩ := hrr.out
        obtain ⟨qa, qcap, rfl⟩ := own_shape p1
        by_cases hk2 : k < Q.length
        · obtain ⟨x, hx⟩ : ∃ x, Q[k] = x := ⟨_, rfl⟩
          have hd : Q.drop k = x :: Q.drop (k + 1) := by rw [← hx]; exact List.drop_eq_getElem_cons hk2
          have hTq : Q.take (k + 1) = Q.take k ++ [x] := by rw [List.take_succ_eq_append_getElem hk2, hx]
          obtain ⟨x1, x2, x3, x4⟩ : x.ok := by rw [← hx]; exact HOQ.out _ (List.getElem_mem hk2)
          have hbl : ((Q.drop k).flatMap wtB ++ rs).length ≤ 1000000 := by
            have h0 := HBL.out
            have : Q.flatMap wtB = (Q.take k).flatMap wtB ++ (Q.drop k).flatMap wtB := by rw [← List.flatMap_append, List.take_append_drop]
            rw [List.length_append] at h0 ⊢
            rw [this, List.length_append] at h0
            omega
          obtain ⟨ts, hts⟩ : ∃ ts, (Q.drop (k + 1)).flatMap wtB ++ rs = ts := ⟨_, rfl⟩
          have e1 : (Q.drop k).flatMap wtB ++ rs = vb x.rank ++ (be 4 x.flow ++ (be 4 x.id ++ (vb x.len ++ ts))) := by
            rw [hd, List.flatMap_cons, List.append_assoc, hts]; unfold wtB; simp only [List.append_assoc]
          rw [e1] at p3 hbl
          have l1 : (be 4 x.flow ++ (be 4 x.id ++ (vb x.len ++ ts))).length ≤ 1000000 := by rw [List.length_append] at hbl; omega
          have l2 : (be 4 x.id ++ (vb x.len ++ ts)).length ≤ 1000000 := by rw [List.length_append] at l1; omega
          have l3 : (vb x.len ++ ts).length ≤ 1000000 := by rw [List.length_append] at l2; omega
          have G1 := Lib.hid (aVr x.rank x1 _ hbl p3)
          have G2 := Lib.hid (fun W (h : Rd W r _) => aWd (w := W) x.flow x2 _ l1 h)
          have G3 := Lib.hid (fun W (h : Rd W r _) => aWd (w := W) x.id x3 _ l2 h)
          have G4 := Lib.hid (fun W (h : Rd W r _) => aVr (w := W) x.len x4 _ l3 h)
          have HTq : Hid ((Q.take (k + 1)).flatMap enWt = (Q.take k).flatMap enWt ++ [.int .u64 x.rank, .int .u32 x.flow, .int .u32 x.id, .int .u64 x.len]) := by show _ = _; rw [hTq]; simp [enWt]
          have hTs := Lib.hid hts
          obtain ⟨xr, xf, xi, xl⟩ := x
          simp only at *
          have F1 := fldNW 5 xr ⟨#[]⟩; have F2 := fldNW 3 xf ⟨#[]⟩; have F3 := fldNW 3 xi ⟨#[]⟩; have F4 := fldNW 5 xl ⟨#[]⟩
          have P1 := Lib.hid p1; have P5 := Lib.hid p5
          have hszr := p5.size
          clear p1 p3 p5 hrr e1 hbl l1 l2 l3 hd hTq hts hx
          go_wp2_with fail
          refine (G1.out).mono ?_
          rintro e w2 ⟨rfl, r1, k1⟩
          have S1 := Lib.hid (own_kp P1.out k1 (fun b hb e => by have := (own_block P1.out hb).1; omega))
          have S3 := Lib.hid r1; have S5 : Hid (Kp (fun b => b = r) wo w2) := P5.out.trans k1
          have hsz2 := k1.size
          clear r1 k1
          go_wp2_with fail
          have X3 := Lib.hid (Blk.new w2 [.int .u64 xr, .int .u32 0, .int .u32 0, .int .u64 0] 73)
          have Y1 := Lib.hid (S1.out.alloc (.cells #[.int .u64 xr, .int .u32 0, .int .u32 0, .int .u64 0] 73))
          have Y3 : Hid (Rd _ r _) := Blk.alloc S3.out (.cells #[.int .u64 xr, .int .u32 0, .int .u32 0, .int .u64 0] 73)
          have Y5 := Lib.hid (S5.out.alloc (.cells #[.int .u64 xr, .int .u32 0, .int .u32 0, .int .u64 0] 73))
          obtain ⟨xb, hxb⟩ : ∃ xb, w2.heap.size = xb := ⟨_, rfl⟩
          rw [hxb] at X3
          simp only [hxb]
          have hxr : xb ≠ r := by omega
          have hrx : r ≠ xb := by omega
          have hxo : wo.heap.size ≤ xb := by omega
          have hrow : ∀ b, (Value.slice qa k qcap).ownBlock = some b → b ≠ xb := fun b hb e => by have := (own_block S1.out hb).2; omega
          generalize w2.alloc (.cells #[.int .u64 xr, .int .u32 0, .int .u32 0, .int .u64 0] 73) = w3 at *
          clear S1 S3 S5 hxb
          refine (G2.out _ Y3.out).mono ?_
          rintro e w4 ⟨rfl, r1, k1⟩
          have Z1 := Lib.hid (own_kp Y1.out k1 (fun b hb e => by have := (own_block Y1.out hb).1; omega))
          have ZX := Lib.hid (X3.out.kp k1 hxr)
          have Z3 := Lib.hid r1; have Z5 : Hid (Kp (fun b => b = r) wo w4) := Y5.out.trans k1
          have z0 := ZX.out.cell 1 rfl
          have zf := fun j => ZX.out.fz j
          clear r1 k1 X3 Y1 Y3 Y5
          go_wp2_with fail
          have X3 : Hid (Blk _ xb [.int .u64 xr, .int .u32 xf, .int .u32 0, .int .u64 0] 73) := ZX.out.set 1 (.int .u32 xf)
          have Y1 := Lib.hid (own_setNe Z1.out (a := ⟨xb, 1, none⟩) hrow (.int .u32 xf))
          have Y3 : Hid (Rd _ r _) := Blk.setNe Z3.out (a := ⟨xb, 1, none⟩) hrx (.int .u32 xf)
          have Y5 : Hid (Kp (fun b => b = r) wo _) := Z5.out.set (p := ⟨xb, 1, none⟩) (.inr hxo) (.int .u32 xf)
          generalize w4.setCell ⟨xb, 1, none⟩ (.int .u32 xf) = w3 at *
          clear Z1 ZX Z3 Z5 z0 zf
          refine (G3.out _ Y3.out).mono ?_
          rintro e w4 ⟨rfl, r1, k1⟩
          have Z1 := Lib.hid (own_kp Y1.out k1 (fun b hb e => by have := (own_block Y1.out hb).1; omega))
          have ZX := Lib.hid (X3.out.kp k1 hxr)
          have Z3 := Lib.hid r1; have Z5 : Hid (Kp (fun b => b = r) wo w4) := Y5.out.trans k1
          have z0 := ZX.out.cell 2 rfl
          have zf := fun j => ZX.out.fz j
          clear r1 k1 X3 Y1 Y3 Y5
          go_wp2_with fail
          have X3 : Hid (Blk _ xb [.int .u64 xr, .int .u32 xf, .int .u32 xi, .int .u64 0] 73) := ZX.out.set 2 (.int .u32 xi)
          have Y1 := Lib.hid (own_setNe Z1.out (a := ⟨xb, 2, none⟩) hrow (.int .u32 xi))
          have Y3 : Hid (Rd _ r _) := Blk.setNe Z3.out (a := ⟨xb, 2, none⟩) hrx (.int .u32 xi)
          have Y5 : Hid (Kp (fun b => b = r) wo _) := Z5.out.set (p := ⟨xb, 2, none⟩) (.inr hxo) (.int .u32 xi)
          generalize w4.setCell ⟨xb, 2, none⟩ (.int .u32 xi) = w3 at *
          clear Z1 ZX Z3 Z5 z0 zf
          refine (G4.out _ Y3.out).mono ?_
          rintro e w4 ⟨rfl, r1, k1⟩
          have Z1 := Lib.hid (own_kp Y1.out k1 (fun b hb e => by have := (own_block Y1.out hb).1; omega))
          have ZX := Lib.hid (X3.out.kp k1 hxr)
          have Z3 := Lib.hid r1; have Z5 : Hid (Kp (fun b => b = r) wo w4) := Y5.out.trans k1
          have z0 := ZX.out.cell 3 rfl
          have zf := fun j => ZX.out.fz j
          clear r1 k1 X3 Y1 Y3 Y5
          go_upto_region 17 with fail
          have X3 : Hid (Blk _ xb [.int .u64 xr, .int .u32 xf, .int .u32 xi, .int .u64 xl] 73) := ZX.out.set 3 (.int .u64 xl)
          have V1 := Lib.hid (own_setNe Z1.out (a := ⟨xb, 3, none⟩) hrow (.int .u64 xl))
          have V3 : Hid (Rd _ r ts) := Blk.setNe Z3.out (a := ⟨xb, 3, none⟩) hrx (.int .u64 xl)
          have V5 : Hid (Kp (fun b => b = r) wo _) := Z5.out.set (p := ⟨xb, 3, none⟩) (.inr hxo) (.int .u64 xl)
          generalize w4.setCell ⟨xb, 3, none⟩ (.int .u64 xl) = w5 at *
          have hsz5 := V5.out.size
          have y0 := X3.out.cell 0 rfl; have y1 := X3.out.cell 1 rfl; have y2 := X3.out.cell 2 rfl; have y3 := X3.out.cell 3 rfl
          clear Z1 ZX Z3 Z5 z0 zf
          go_wp2_with (at_builtin; refine wp_app1 tRk (.tmp 63) (.tmp 65) rfl rfl wo.heap.size (V1.out.alloc _) [.int .u64 xr, .int .u32 xf, .int .u32 xi, .int .u64 xl] rfl rfl rfl (heap_at _ _ _ (by simp)) rfl (by omega) (by omega) (by simp; omega) ?_)
          intro g2 cap2 w6 hown hgrow
          have hk3 : Kp (fun b => wo.heap.size ≤ b) w5 w6 := ((Kp.refl _ w5).alloc (.cells #[.int .u64 xr, .int .u32 xf, .int .u32 xi, .int .u64 xl] 73)).grown hgrow (fun b hb => .inl (own_block V1.out hb).1)
          have HG : Hid (w6.ownsRow wo.heap.size 73 4 (.slice (some ⟨g2, 0, none⟩) (k + 1) cap2) (k + 1) ((Q.take (k + 1)).flatMap enWt)) := by rw [HTq.out]; exact hown
          have HR : Hid (Rd w6 r ((Q.drop (k + 1)).flatMap wtB ++ rs)) := by rw [hTs.out]; exact Blk.kp V3.out hk3 (by omega)
          have HK : Hid (Kp (fun b => b = r) wo w6) := V5.out.then hk3 (fun i hi e => by omega)
          clear hown hgrow hk3 V1 V3 V5 X3 y0 y1 y2 y3
          go_wp2_with fail
          go_roundw
          case rel => exact ⟨k + 1, by go_num, by omega, HG.out, HR.out, HK.out⟩
          case measure => simp [intOf]; omega
        · have e : k = Q.length := by omega
          subst e
          rw [List.take_length] at p1
          rw [List.drop_length] at p3
          have N1 := Lib.hid (own_base p1 hszo)
          have hq : ∀ b, (Value.slice qa Q.length qcap).ownBlock = some b → wo.heap.size ≤ b := fun b hb => (own_block p1 hb).1
          have N3 : Hid (Rd wr r rs) := p3
          have N5 := Lib.hid p5
          have hlen := QO.len P2.out
          have hT2 : (qs.take j).length = j := by rw [List.length_take]; omega
          have hvl : vs.length = j := by omega
          have O1 := Lib.hid (own_kp P1.out p5 (fun b hb e => by have := (own_block P1.out hb).1; omega))
          have O2 := Lib.hid (P2.out.kp p5 (fun b hb _ e => by omega))
          have O4 := Lib.hid (P4.out.kp p5 (fun e => by omega))
          have O5 : Hid (Kp (fun b => b = r ∨ b = sb) w11 wr) := P5.out.trans (p5.mono (fun _ _ e => .inl e))
          have c37 : wr.cell? ⟨sb, 37, none⟩ = some vq := O4.out.cell 37 (st_37 _ _ _ _ HL.out _ _ _)
          have f37 := fun j => O4.out.fz j
          have hszr := O5.out.size
          obtain ⟨va, vcap, rfl⟩ := own_shape P1.out
          have hjl : j ≤ 1000000 := by omega
          clear p1 p3 p5 hrr P1 P2 P4 P5 hlen hT2
          go_wp2_with (at_builtin; refine wp_app1 tQs (.tmp 69) (.tmp 71) rfl rfl w11.heap.size (O1.out.alloc _) [.slice qa Q.length qcap] rfl rfl rfl (heap_at _ _ _ (by simp)) rfl (by omega) (by omega) (by simp; omega) ?_)
          intro g2 cap2 w2 hown hgrow
          have hk3 : Kp (fun b => (Value.slice va j vcap).ownBlock = some b) wr w2 := ((Kp.refl _ wr).alloc (.cells #[.slice qa Q.length qcap] 47)).grown hgrow (fun b hb => .inl hb)
          have hne : ∀ b, (Value.slice va j vcap).ownBlock = some b → w11.heap.size ≤ b := fun b hb => (own_block O1.out hb).1
          have tN1 : w2.ownsRow w11.heap.size 73 4 (.slice qa Q.length qcap) Q.length (Q.flatMap enWt) := own_kp N1.out hk3 (fun b hb hb' => own_ne_own N1.out O1.out (by decide) b hb hb')
          have tO2 := O2.out.kp hk3 (fun b _ hx hb => by
            obtain ⟨cs, fr, e⟩ := hx
            obtain ⟨cur, e'⟩ := own_type O1.out hb
            rw [e] at e'
            simp at e')
          have M1 : Hid (w2.ownsRow w11.heap.size 47 1 (.slice (some ⟨g2, 0, none⟩) (j + 1) cap2) (j + 1) (vs ++ [.slice qa Q.length qcap])) := hown
          have M2 : Hid (QO w2 w11.heap.size (vs ++ [.slice qa Q.length qcap]) (qs.take (j + 1))) := by rw [HTk.out]; exact QO.snoc tN1 tO2
          have M3 : Hid (Rd w2 r ((qs.drop (j + 1)).flatMap quB ++ rest)) := by rw [hRs.out]; exact Blk.kp N3.out hk3 (fun hb => by have := hne _ hb; omega)
          have M4 := Lib.hid (O4.out.kp hk3 (fun hb => by have := hne _ hb; omega))
          have M5 : Hid (Kp (fun b => b = r ∨ b = sb) w11 w2) := O5.out.then hk3 (fun i hi hb => by have := hne _ hb; omega)
          have c37 : w2.cell? ⟨sb, 37, none⟩ = some (.slice va j vcap) := M4.out.cell 37 (st_37 _ _ _ _ HL.out _ _ _)
          have f37 := fun j => M4.out.fz j
          have hg2 := (own_block hown rfl)
          clear hown hgrow hk3 tN1 tO2 N1 O1 O2 O4 O5 N3 N5 hne hq
          go_wp2_with fail
          go_roundw
          case rel =>
            have e1 := M4.out.set 37 (.slice (some ⟨g2, 0, none⟩) (j + 1) cap2)
            rw [st_set37 _ _ _ _ HL.out] at e1
            refine ⟨j + 1, vs ++ [.slice qa Q.length qcap], _, by go_num, by omega, own_setNe M1.out (fun b hb e => by have := (own_block M1.out hb).1; have e : b = sb := e; omega) _, M2.out.kp (S := fun b => b = sb) ((Kp.refl (fun b => b = sb) _).set (p := ⟨sb, 37, none⟩) (.inl rfl) _) (fun b hb _ e => by omega), Blk.setNe M3.out (a := ⟨sb, 37, none⟩) (by show r ≠ sb; omega) _, e1, M5.out.set (p := ⟨sb, 37, none⟩) (.inl (.inr rfl)) _⟩
          case measure => simp [intOf]; omega
    · have e : j = qs.length := by omega
      subst e
      obtain ⟨p1, p2, p3, p4, p5⟩ := hrr.out
      rw [List.take_length] at p2
      rw [List.drop_length] at p3
      have P1 := Lib.hid (own_base p1 hszL); have P2 := Lib.hid (p2.base hszL)
      have P3 : Hid (Rd wo r rest) := p3
      have hne : ∀ b, w11.heap.size ≤ b → ¬ (b = r ∨ b = sb) := fun b hb e => by omega
      have P4 := Lib.hid p4
      have P5 : Hid (Kp (fun b => b = r) w wo) := KL.out.then p5 (fun i hi e => by omega)
      have T := Lib.hid (own_kp TL.out p5 (fun b hb e => by have := tl8 b hb; have := (own_block TL.out hb).1; omega))
      have U := Lib.hid (own_kp UL.out p5 (fun b hb e => by have := tl b hb; have := (own_block UL.out hb).1; omega))
      have A := Lib.hid (AL.out.kp p5 (fun e => by omega))
      clear p1 p2 p3 p4 p5 hrr
      have hi : Hid ((Tryz.prog.info? 30).map (·.size) = some (stC now tok virt ref (.slice ta tags.length tcap) (.slice ua bounds.length ucap) vq).length) := by show _ = _; rw [stC_len _ _ _ _ HL.out]; exact infoSt
      have ho : Hid ((stC 0 0 0 z (.slice none 0 0) (.slice none 0 0) (.slice none 0 0)).length = (stC now tok virt ref (.slice ta tags.length tcap) (.slice ua bounds.length ucap) vq).length) := by show _ = _; rw [stC_len _ _ _ _ HL.out, stC_len _ _ _ _ HZ.out]
      obtain ⟨va, vcap, rfl⟩ := own_shape P1.out
      go_wp2_with (first
        | (refine wp_get_row rfl 30 (.tmp 3) rfl P4.out _ rfl Tryz.underlying30 rfl hi.out ?_)
        | (refine wp_set_row rfl 30 (.tmp 2) (.tmp 75) rfl A.out (stC now tok virt ref (.slice ta tags.length tcap) (.slice ua bounds.length ucap) (.slice va qs.length vcap)) rfl rfl hi.out ho.out (stOne _ _ _ _ rfl rfl rfl) ?_))
      intro W2 hb hot hK
      have k2 : Kp (fun b => b = w.heap.size) wo W2 := hK _ _ (Kp.refl _ _) (.inl rfl)
      have hp1 := own_kp P1.out k2 (fun b hb e => own_ne_blk P1.out A.out (by decide) (e ▸ hb))
      have ht1 := own_kp T.out k2 (fun b hb e => own_ne_blk T.out A.out (by decide) (e ▸ hb))
      have hu1 := own_kp U.out k2 (fun b hb e => own_ne_blk U.out A.out (by decide) (e ▸ hb))
      have hq1 := P2.out.kp k2 (fun b _ hx e => by
        obtain ⟨cs, fr, e'⟩ := hx
        rw [e, A.out.is] at e'
        simp at e')
      have hr1 : Rd W2 r rest := Blk.kp P3.out k2 (by omega)
      have hk1 : Kp (fun b => b = r) w W2 := P5.out.then k2 (fun i hi e => by omega)
      have Z0 := Lib.hid hb; have Z1 := Lib.hid hp1; have Z2 := Lib.hid ht1; have Z3 := Lib.hid hu1; have Z4 := Lib.hid hq1; have Z5 := Lib.hid hr1; have Z6 := Lib.hid hk1
      clear hb hot hK k2 hp1 ht1 hu1 hq1 hr1 hk1
      go_wp2_with fail
      exact ret_row rfl Z0.out _ Tryz.underlying30 rfl hi.out rfl ⟨_, _, _, _, rfl, Z2.out, Z3.out, Z1.out, Z4.out, Z5.out, Z6.out⟩
end Go.Proofs.YtlaakhfgidjofaaGreatDoor
