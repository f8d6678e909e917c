/- TableChecks walked: any command. -/
import Derived.Test.YtpanbijlfijgfaaDoorFour18
import Derived.Test.YtpanbijlfijgfaaDoorLives18
import Derived.Test.YtpanbijlfijgfaaDoorBkA18
namespace Go.Proofs.YtpanbijlfijgfaaDoor.Fnd
open Go Go.RowKit Go.Proofs.YtpanbijlfijgfaaDoor.Rws Go.Proofs.YtpanbijlfijgfaaDoor.Low18 Go.Proofs.YtpanbijlfijgfaaDoor.Bok Go.Proofs.YtpanbijlfijgfaaDoor.Pin
theorem row_strs {w : World} {B : Nat} {T : TypeId} {v : Value} {l : List ByteArray} (h : w.ownsRow B T 1 v l.length (l.map Value.string)) : ∃ A c, v = .slice A l.length c ∧ Strs w A l := by
  obtain ⟨A, c, rfl, hA⟩ := row_slice h
  refine ⟨A, c, rfl, fun i hi => ?_⟩
  obtain ⟨g, rfl⟩ := hA (by omega)
  refine ⟨g, 0, rfl, (h.lt g rfl).2, ?_⟩
  rw [Nat.zero_add, h.cellAt i (by omega), List.getElem?_map, List.getElem?_eq_getElem hi]
  rfl
theorem row_less {w : World} {B g n cap : Nat} {T : TypeId} {xs : List Value} {y : Value} (h : w.ownsRow B T 1 (.slice (some ⟨g, 0, none⟩) (n + 1) cap) (n + 1) (xs ++ [y])) (hn : xs.length = n) : w.ownsRow B T 1 (.slice (some ⟨g, 0, none⟩) n cap) n xs := by
  rcases h.2 with ⟨k, _⟩ | ⟨g', cap', cur, e, h1, h2, h3, h4, h5, h6⟩
  · simp at k
  · cases e
    refine ⟨by rw [hn]; omega, .inr ⟨_, _, cur, rfl, h1, h2, by omega, h4, h5, ?_⟩⟩
    have h7 := congrArg (List.take n) h6
    rw [List.take_take, show min n ((n + 1) * 1) = n * 1 by omega] at h7
    rw [h7, List.take_append_of_le_length (by omega), List.take_of_length_le (by omega)]
theorem below_frm {B : Nat} {own : Nat → Prop} {w w1 w2 : World} (h : Below B w w1) (hf : Frm own w1 w2) (hB : B ≤ w.heap.size) (ho : ∀ r, own r → B ≤ r) : Below B w w2 :=
  ⟨hf.os.trans h.os, hf.tape.trans h.tape, hf.output.trans h.output, Nat.le_trans h.size hf.size, fun b hb => (hf.block b (by have := h.size; omega) (fun e => by have := ho b e; omega)).trans (h.block b hb)⟩
theorem chkV_rep (t : Option ByteArray) : ∃ (k : Int) (s : ByteArray), chkV t = repV k s := by
  cases t with
  | none => exact ⟨0, _, rfl⟩
  | some s => exact ⟨2, s, rfl⟩
theorem row_cmd {w : World} {B g : Nat} {ss : List ByteArray} (h : w.ownsRow B 9 1 (.slice (some ⟨g, 0, none⟩) ss.length (ss.length + 1)) ss.length (ss.map Value.string)) : CmdAt w g ss :=
  ⟨(h.lt g rfl).2, fun i hi => by rw [h.cellAt i (by omega), List.getElem?_map, List.getElem?_eq_getElem hi]; rfl⟩
set_option maxHeartbeats 4000000 in
set_option maxRecDepth 100000 in
theorem checks_any (ss : List ByteArray) (p : Option Addr) (cap : Nat) (w : World) (hS : Strs w p ss) (hl : ss.length ≤ 1048576) (hb : ∀ s ∈ ss, s.size ≤ 1048576) :
    Calls Tryd.prog 3 #[.slice p ss.length cap] w fun e w' => e = .returned (.bool true) ∧ Below w.heap.size w w' := by
  obtain ⟨t, KL, hF, hKL⟩ := four ss hl hb
  obtain ⟨tk, ts, hrep⟩ := chkV_rep t
  have HREP := Lib.hid hrep
  have HF := Lib.hid hF
  have HS := Lib.hid hS
  have HKL := Lib.hid hKL
  have HTW := Lib.hid (twin_command ss p cap w hS hl)
  obtain ⟨L, hL⟩ : ∃ L, L = ss.length := ⟨_, rfl⟩
  have HL := Lib.hid hL
  have HLL : Hid (L ≤ 1048576) := Lib.hid (by omega)
  rw [← hL] at HTW ⊢
  clear hF hrep hS hKL hL hb hl
  go_enter Tryd.func3, Tryd.ntmps3
  go_wp2_with fail
  refine HTW.out.mono ?_
  rintro e w1 ⟨⟨g, rfl, ho1⟩, hb1⟩
  have HO1 := Lib.hid ho1
  have HB1 := Lib.hid hb1
  have HC1 : Hid (CmdAt w1 g ss) := Lib.hid (by
    have h := row_less ho1 (by rw [List.length_map]; exact HL.out.symm)
    rw [HL.out] at h
    exact row_cmd h)
  have HX1 := Lib.hid (HF.out.chk1 g (L + 1) w1 HC1.out (by rw [← HL.out]; omega))
  rw [← HL.out, HREP.out] at HX1
  clear ho1 hb1 HTW
  go_wp2_with fail
  refine HX1.out.mono ?_
  rintro e w2 ⟨rfl, hb2⟩
  have HB2 := Lib.hid ((HB1.out.trans (hb2.mono HB1.out.size)).alloc (by have := HB1.out.size; have := hb2.size; omega) (.cells #[.int .u8 tk, .string ts, .int .i64 0, .slice none 0 0] 28))
  have HD2 := Lib.hid (((Below.refl _ w1).trans hb2).alloc hb2.size (.cells #[.int .u8 tk, .string ts, .int .i64 0, .slice none 0 0] 28))
  have HR1 : Hid ((w2.alloc (.cells #[.int .u8 tk, .string ts, .int .i64 0, .slice none 0 0] 28)).heap[w2.heap.size]? = some (.cells #[.int .u8 tk, .string ts, .int .i64 0, .slice none 0 0] 28 (0, 0))) := Lib.hid (heap_alloc_new w2 _)
  clear hb2 HX1
  unfold repV
  go_wp2_with fail
  generalize hW3 : w2.alloc (.cells #[.int .u8 tk, .string ts, .int .i64 0, .slice none 0 0] 28) = w3 at HB2 HD2 HR1 ⊢
  clear hW3
  generalize w2.heap.size = r1 at HR1 ⊢
  generalize hbt : t.isSome = bt
  have HX2 := Lib.hid (HF.out.chk2 p cap w3 (Strs.below HS.out (HB2.out.mono (Nat.le_refl _))))
  rw [← HL.out, HREP.out, hbt] at HX2
  clear hbt
  refine HX2.out.mono ?_
  rintro e w4 ⟨rfl, hb4⟩
  have HB4 := Lib.hid ((HB2.out.trans (hb4.mono HB2.out.size)).alloc (by have := HB2.out.size; have := hb4.size; omega) (.cells #[.int .u8 tk, .string ts, .int .i64 0, .slice none 0 0] 28))
  have HD4 := Lib.hid ((HD2.out.trans (hb4.mono HD2.out.size)).alloc (by have := HD2.out.size; have := hb4.size; omega) (.cells #[.int .u8 tk, .string ts, .int .i64 0, .slice none 0 0] 28))
  have HR2 : Hid ((w4.alloc (.cells #[.int .u8 tk, .string ts, .int .i64 0, .slice none 0 0] 28)).heap[w4.heap.size]? = some (.cells #[.int .u8 tk, .string ts, .int .i64 0, .slice none 0 0] 28 (0, 0))) := Lib.hid (heap_alloc_new w4 _)
  have HR1b : Hid ((w4.alloc (.cells #[.int .u8 tk, .string ts, .int .i64 0, .slice none 0 0] 28)).heap[r1]? = some (.cells #[.int .u8 tk, .string ts, .int .i64 0, .slice none 0 0] 28 (0, 0))) := Lib.hid (by
    have h1 := (Array.getElem?_eq_some_iff.1 HR1.out).1
    exact (((hb4.alloc hb4.size (.cells #[.int .u8 tk, .string ts, .int .i64 0, .slice none 0 0] 28)).block r1 h1).trans HR1.out))
  clear hb4 HX2 HR1
  unfold repV
  go_wp2_with fail
  generalize hW5 : w4.alloc (.cells #[.int .u8 tk, .string ts, .int .i64 0, .slice none 0 0] 28) = w5 at HB4 HD4 HR2 HR1b ⊢
  clear hW5
  generalize w4.heap.size = r2 at HR2 ⊢
  have HX3 := Lib.hid (HF.out.key1 g (L + 1) w5 (HC1.out.below HD4.out) (by rw [← HL.out]; omega))
  rw [← HL.out] at HX3
  refine HX3.out.mono ?_
  rintro e w6 ⟨⟨vk, rfl, hk6⟩, hb6⟩
  have HK6 := Lib.hid hk6
  have HE6 := Lib.hid hb6
  have HD6 := Lib.hid (HD4.out.trans (hb6.mono HD4.out.size))
  clear hk6 hb6 HX3
  go_wp2_with fail
  have HX4 := Lib.hid (HF.out.key1 g (L + 1) w6 (HC1.out.below HD6.out) (by rw [← HL.out]; omega))
  rw [← HL.out] at HX4
  refine HX4.out.mono ?_
  rintro e w7 ⟨⟨vm, rfl, hk7⟩, hb7⟩
  have HK7 := Lib.hid hk7
  have HE7 := Lib.hid (HE6.out.trans (hb7.mono HE6.out.size))
  have HG7 := Lib.hid hb7
  have hr1 : w7.heap[r1]? = some (.cells #[.int .u8 tk, .string ts, .int .i64 0, .slice none 0 0] 28 (0, 0)) := (HE7.out.block r1 (Array.getElem?_eq_some_iff.1 HR1b.out).1).trans HR1b.out
  have hr2 : w7.heap[r2]? = some (.cells #[.int .u8 tk, .string ts, .int .i64 0, .slice none 0 0] 28 (0, 0)) := (HE7.out.block r2 (Array.getElem?_eq_some_iff.1 HR2.out).1).trans HR2.out
  have a0 : w7.cell? ⟨r1, 0, none⟩ = some (.int .u8 tk) := by rw [Lib.cell_of_heap hr1]; rfl
  have a1 : w7.cell? ⟨r1, 1, none⟩ = some (.string ts) := by rw [Lib.cell_of_heap hr1]; rfl
  have a2 : w7.cell? ⟨r1, 2, none⟩ = some (.int .i64 0) := by rw [Lib.cell_of_heap hr1]; rfl
  have a3 : w7.cell? ⟨r1, 3, none⟩ = some (.slice none 0 0) := by rw [Lib.cell_of_heap hr1]; rfl
  have e0 : w7.cell? ⟨r2, 0, none⟩ = some (.int .u8 tk) := by rw [Lib.cell_of_heap hr2]; rfl
  have e1 : w7.cell? ⟨r2, 1, none⟩ = some (.string ts) := by rw [Lib.cell_of_heap hr2]; rfl
  have e2 : w7.cell? ⟨r2, 2, none⟩ = some (.int .i64 0) := by rw [Lib.cell_of_heap hr2]; rfl
  have e3 : w7.cell? ⟨r2, 3, none⟩ = some (.slice none 0 0) := by rw [Lib.cell_of_heap hr2]; rfl
  have hbb : (bt != bt) = false := by simp
  have HSR := Lib.hid (same_reply tk ts w7)
  unfold repV at HSR
  obtain ⟨Ak, ck, rfl, _⟩ := row_slice HK6.out
  obtain ⟨Am, cm, rfl, _⟩ := row_slice HK7.out
  clear hk7 hb7 HX4 hr1 hr2
  go_wp2_with fail
  refine HSR.out.mono ?_
  rintro e w8 ⟨rfl, hb8⟩
  have HE8 := Lib.hid (HE7.out.trans (hb8.mono HE7.out.size))
  have HG8 := Lib.hid (HG7.out.trans (hb8.mono HG7.out.size))
  have HD8 := Lib.hid (HD4.out.trans (HE8.out.mono HD4.out.size))
  have HB8 := Lib.hid (HB4.out.trans (HE8.out.mono HB4.out.size))
  have HM8 := Lib.hid hb8
  clear a0 a1 a2 a3 e0 e1 e2 e3 hb8 HSR HE7
  go_wp2_with fail
  have HX5 := Lib.hid (HF.out.key2 p cap w8 (Strs.below HS.out (HB8.out.mono (Nat.le_refl _))))
  rw [← HL.out] at HX5
  refine HX5.out.mono ?_
  rintro e w9 ⟨⟨v9, rfl, hk9⟩, hb9⟩
  have HE9 := Lib.hid (HE8.out.trans (hb9.mono HE8.out.size))
  have HG9 := Lib.hid (HG8.out.trans (hb9.mono HG8.out.size))
  have HD9 := Lib.hid (HD8.out.trans (hb9.mono HD8.out.size))
  have HB9 := Lib.hid (HB8.out.trans (hb9.mono HB8.out.size))
  have HM9 := Lib.hid (HM8.out.trans (hb9.mono HM8.out.size))
  obtain ⟨A9, c9, rfl, hs9⟩ := row_strs hk9
  have HK9 : Hid (Strs w9 Ak KL) := Lib.hid (by
    obtain ⟨A', c', e, h⟩ := row_strs HK6.out
    injection e with e1 e2 e3
    rw [e1]
    exact Strs.below h HG9.out)
  have HST := Lib.hid (same_texts KL Ak A9 ck c9 w9 HK9.out hs9 (by have := HKL.out; have := HLL.out; have := HL.out; omega))
  clear hk9 hb9 hs9 HX5 HE8 HG8 HD8 HB8 HM8
  go_wp2_with fail
  refine HST.out.mono ?_
  rintro e w10 ⟨rfl, hb10⟩
  have HE10 := Lib.hid (HE9.out.trans (hb10.mono HE9.out.size))
  have HG10 := Lib.hid (HG9.out.trans (hb10.mono HG9.out.size))
  have HD10 := Lib.hid (HD9.out.trans (hb10.mono HD9.out.size))
  have HB10 := Lib.hid (HB9.out.trans (hb10.mono HB9.out.size))
  have HM10 := Lib.hid (HM9.out.trans (hb10.mono HM9.out.size))
  have HLC := Lib.hid (left_command w.heap.size ss g p cap w10 (by
    have h := (Frm.of_below (own := fun _ => False) HD10.out).row HO1.out (fun _ _ x => x)
    rw [HL.out] at h
    exact h) (Strs.below HS.out (HB10.out.mono (Nat.le_refl _))) (by rw [← HL.out]; exact HLL.out))
  rw [← HL.out] at HLC
  clear hb10 HST HE9 HG9 HD9 HB9 HM9 HK9
  go_wp2_with fail
  refine HLC.out.mono ?_
  rintro e w11 ⟨rfl, hb11⟩
  have HE11 := Lib.hid (HE10.out.trans (hb11.mono HE10.out.size))
  have HG11 := Lib.hid (HG10.out.trans (hb11.mono HG10.out.size))
  have HD11 := Lib.hid (HD10.out.trans (hb11.mono HD10.out.size))
  have HB11 := Lib.hid (HB10.out.trans (hb11.mono HB10.out.size))
  have HM11 := Lib.hid (HM10.out.trans (hb11.mono HM10.out.size))
  clear hb11 HLC HE10 HG10 HD10 HB10 HM10
  have RI : Hid (w11.ownsRow w.heap.size 9 1 (.slice (some ⟨g, 0, none⟩) L (L + 1)) L (ss.map Value.string)) := Lib.hid (row_less ((Frm.of_below (own := fun _ => False) HD11.out).row HO1.out (fun _ _ x => x)) (by rw [List.length_map]; exact HL.out.symm))
  have RK : Hid (w11.ownsRow w5.heap.size 9 1 (.slice Ak KL.length ck) KL.length (KL.map Value.string)) := Lib.hid ((Frm.of_below (own := fun _ => False) HG11.out).row HK6.out (fun _ _ x => x))
  have RM : Hid (w11.ownsRow w6.heap.size 9 1 (.slice Am KL.length cm) KL.length (KL.map Value.string)) := Lib.hid ((Frm.of_below (own := fun _ => False) HM11.out).row HK7.out (fun _ _ x => x))
  have HZ : Hid (w.heap.size ≤ w1.heap.size ∧ w1.heap.size ≤ w5.heap.size ∧ w5.heap.size ≤ w6.heap.size ∧ w6.heap.size ≤ w11.heap.size ∧ g < w1.heap.size) := Lib.hid ⟨HB1.out.size, HD4.out.size, HE6.out.size, HG11.out.size, HC1.out.1⟩
  have HKU : Hid (∀ r, (Value.slice Ak KL.length ck).ownBlock = some r → r < w6.heap.size) := Lib.hid (fun r hr => (HK6.out.lt r hr).2)
  clear HO1 HC1 HK6 HK7 HD4 HE6 HD6 HB4 HR2 HR1b HG7 HE11 HG11 HD11 HM11 HB1 HB2 HD2
  go_wp2_with fail
  have HK12 : Hid (BkK (w11.alloc (.cells #[.int .i64 0, .slice none 0 0, .slice none 0 0, .slice none 0 0, .slice none 0 0, .slice none 0 0, .slice none 0 0, .slice none 0 0, .slice none 0 0, .slice none 0 0] 45)) w.heap.size w11.heap.size 0 (.slice none 0 0) []) := Lib.hid ⟨heap_alloc_new w11 _, World.ownsRow_nil _ _ _ _, by simp [Value.ownBlock]⟩
  have HF12 : Hid (Frm (fun _ => False) w11 (w11.alloc (.cells #[.int .i64 0, .slice none 0 0, .slice none 0 0, .slice none 0 0, .slice none 0 0, .slice none 0 0, .slice none 0 0, .slice none 0 0, .slice none 0 0, .slice none 0 0] 45))) := Lib.hid ((Frm.refl _).alloc _)
  have HZ12 : Hid ((w11.alloc (.cells #[.int .i64 0, .slice none 0 0, .slice none 0 0, .slice none 0 0, .slice none 0 0, .slice none 0 0, .slice none 0 0, .slice none 0 0, .slice none 0 0, .slice none 0 0] 45)).heap.size = w11.heap.size + 1) := Lib.hid (by simp)
  generalize hW12 : w11.alloc (.cells #[.int .i64 0, .slice none 0 0, .slice none 0 0, .slice none 0 0, .slice none 0 0, .slice none 0 0, .slice none 0 0, .slice none 0 0, .slice none 0 0, .slice none 0 0] 45) = w12 at HK12 HF12 HZ12 ⊢
  clear hW12
  obtain ⟨b, hb⟩ : ∃ b, b = w11.heap.size := ⟨_, rfl⟩
  rw [← hb] at HK12 ⊢
  have HBB := Lib.hid hb
  clear hb
  have HC1 := Lib.hid (command_any w.heap.size b 0 (.slice none 0 0) [] (some ⟨g, 0, none⟩) L (L + 1) w12 HK12.out (by simp) (by omega) (by have := HZ.out; have := HF12.out.size; omega))
  refine HC1.out.mono ?_
  rintro e w13 ⟨rfl, sl1, hk13, hf13, hs13⟩
  have HK13 := Lib.hid hk13
  have HF13 : Hid (Frm (fun r => b ≤ r) w11 w13) := Lib.hid ((HF12.out.mono (fun _ _ x => x.elim)).trans hf13 (fun r _ h => by rcases h with h | h; omega; cases h))
  have HS13 : Hid (∀ r, sl1.ownBlock = some r → b < r) := Lib.hid (fun r hr => by
    rcases hs13 with h | ⟨r', h, h2⟩
    · rw [h] at hr; cases hr
    · rw [h] at hr; injection hr with hr; have := HZ12.out; have := HBB.out; omega)
  clear hk13 hf13 hs13 HC1 HK12 HF12
  go_wp2_with fail
  have HC2 := Lib.hid (texts_any w.heap.size b (0 + 1) sl1 _ Ak KL.length ck w13 HK13.out (by simp) (by omega) (by have := HZ.out; have := HF13.out.size; omega))
  refine HC2.out.mono ?_
  rintro e w14 ⟨rfl, sl2, hk14, hf14, hs14⟩
  have HK14 := Lib.hid hk14
  have HF14 : Hid (Frm (fun r => b ≤ r) w11 w14) := Lib.hid (HF13.out.trans hf14 (fun r _ h => by rcases h with h | h; omega; have := HS13.out r h; omega))
  have HS14 : Hid (∀ r, sl2.ownBlock = some r → b < r) := Lib.hid (fun r hr => by
    rcases hs14 with h | ⟨r', h, h2⟩
    · rw [h] at hr; exact HS13.out r hr
    · rw [h] at hr; injection hr with hr; have := HF13.out.size; have := (Array.getElem?_eq_some_iff.1 HK13.out.top).1; omega)
  clear hk14 hf14 hs14 HC2
  go_wp2_with fail
  have HC3 := Lib.hid (texts_any w.heap.size b (0 + 1 + 1) sl2 _ Am KL.length cm w14 HK14.out (by simp) (by omega) (by have := HZ.out; have := HF14.out.size; omega))
  refine HC3.out.mono ?_
  rintro e w15 ⟨rfl, sl3, hk15, hf15, hs15⟩
  have HK15 := Lib.hid hk15
  have HF15 : Hid (Frm (fun r => b ≤ r) w11 w15) := Lib.hid (HF14.out.trans hf15 (fun r _ h => by rcases h with h | h; omega; have := HS14.out r h; omega))
  have HS15 : Hid (∀ r, sl3.ownBlock = some r → b < r) := Lib.hid (fun r hr => by
    rcases hs15 with h | ⟨r', h, h2⟩
    · rw [h] at hr; exact HS14.out r hr
    · rw [h] at hr; injection hr with hr; have := (Array.getElem?_eq_some_iff.1 HK14.out.top).1; omega)
  clear hk15 hf15 hs15 HC3 HK13 HK14 HF13 HF14 HS13 HS14
  obtain ⟨vi, hvi⟩ : ∃ vi, vi = Value.slice (some ⟨g, 0, none⟩) L (L + 1) := ⟨_, rfl⟩
  obtain ⟨vk, hvk⟩ : ∃ vk, vk = Value.slice Ak KL.length ck := ⟨_, rfl⟩
  obtain ⟨vm, hvm⟩ : ∃ vm, vm = Value.slice Am KL.length cm := ⟨_, rfl⟩
  have hKb : BkK w15 w.heap.size b 3 sl3 [⟨vi, L, 1⟩, ⟨vk, KL.length, 2⟩, ⟨vm, KL.length, 3⟩] := by rw [hvi, hvk, hvm]; exact HK15.out
  have hri := RI.out
  have hrk := RK.out
  have hrm := RM.out
  have hku := HKU.out
  rw [← hvi] at hri
  rw [← hvk] at hrk hku
  rw [← hvm] at hrm
  have hz := HZ.out
  have hbb2 := HBB.out
  have bi : ∀ r, vi.ownBlock = some r → r < w5.heap.size := fun r hr => by
    rw [hvi] at hr
    have : g = r := by
      have h2 : some g = some r := hr
      injection h2
    omega
  have bk : ∀ r, vk.ownBlock = some r → w5.heap.size ≤ r ∧ r < w6.heap.size := fun r hr => ⟨(hrk.lt r hr).1, hku r hr⟩
  have bm : ∀ r, vm.ownBlock = some r → w6.heap.size ≤ r ∧ r < b := fun r hr => ⟨(hrm.lt r hr).1, by rw [hbb2]; exact (hrm.lt r hr).2⟩
  have hown : ∀ r, Own [⟨vi, L, 1⟩, ⟨vk, KL.length, 2⟩, ⟨vm, KL.length, 3⟩] r → w.heap.size ≤ r ∧ r < b := by
    rintro r ⟨h, hm, hr⟩
    simp only [List.mem_cons, List.not_mem_nil, or_false] at hm
    rcases hm with rfl | rfl | rfl
    · have := hri.lt r hr; omega
    · have := bk r hr; omega
    · have := bm r hr; omega
  have HAP := Lib.hid (apart_any w.heap.size b 3 sl3 [⟨vi, L, 1⟩, ⟨vk, KL.length, 2⟩, ⟨vm, KL.length, 3⟩] w15 hKb (by simp) (by
      intro h hm
      simp only [List.mem_cons, List.not_mem_nil, or_false] at hm
      rcases hm with rfl | rfl | rfl
      · exact ⟨_, HF15.out.row hri (fun r hr k => by have := bi r hr; omega)⟩
      · exact ⟨_, HF15.out.row (row_base hrk (by omega)) (fun r hr k => by have := bk r hr; omega)⟩
      · exact ⟨_, HF15.out.row (row_base hrm (by omega)) (fun r hr k => by have := bm r hr; omega)⟩) (by
      intro i j hi hj r h1 h2
      have hi3 : i < 3 := hi
      have hj3 : j < 3 := hj
      have c : (i = 0 ∨ i = 1 ∨ i = 2) ∧ (j = 0 ∨ j = 1 ∨ j = 2) := by omega
      obtain ⟨rfl | rfl | rfl, rfl | rfl | rfl⟩ := c
      all_goals first
        | rfl
        | (exfalso; have x := bi r h1; have y := bk r h2; omega)
        | (exfalso; have x := bi r h1; have y := bm r h2; omega)
        | (exfalso; have x := bk r h1; have y := bi r h2; omega)
        | (exfalso; have x := bk r h1; have y := bm r h2; omega)
        | (exfalso; have x := bm r h1; have y := bi r h2; omega)
        | (exfalso; have x := bm r h1; have y := bk r h2; omega)) (fun h => by have := hown b h; omega) (fun r hr h => by have := hown r h; have := HS15.out r hr; omega) (by
      intro h hm
      have h1 := HLL.out
      have h2 := HKL.out
      have h3 := HL.out
      simp only [List.mem_cons, List.not_mem_nil, or_false] at hm
      rcases hm with rfl | rfl | rfl
      · exact ⟨by show (1 : Nat) < 100; omega, by show L ≤ 1099511627776; omega⟩
      · exact ⟨by show (2 : Nat) < 100; omega, by show KL.length ≤ 1099511627776; omega⟩
      · exact ⟨by show (3 : Nat) < 100; omega, by show KL.length ≤ 1099511627776; omega⟩) (by simp) (by have := HF15.out.size; omega))
  have HB15 : Hid (Below w.heap.size w w15) := Lib.hid (below_frm HB11.out HF15.out (Nat.le_refl _) (fun r h => by omega))
  have HOW : Hid (∀ r, (sl3.ownBlock = some r ∨ Own [⟨vi, L, 1⟩, ⟨vk, KL.length, 2⟩, ⟨vm, KL.length, 3⟩] r) → w.heap.size ≤ r) := Lib.hid (fun r h => by
    rcases h with h | h
    · have := HS15.out r h; omega
    · exact (hown r h).1)
  clear hvi hvk hvm hKb hri hrk hrm hku hz hbb2 bi bk bm hown RI RK RM HKU HK15 HF15 HS15
  go_wp2_with fail
  refine HAP.out.mono ?_
  rintro e w16 ⟨rfl, hf16⟩
  have HB16 := Lib.hid (below_frm HB15.out hf16 (Nat.le_refl _) HOW.out)
  clear hf16 HAP HB15 HOW
  go_wp2_with fail
  refine (names_any _).mono ?_
  rintro e w17 ⟨v17, rfl, hr17, hb17⟩
  have HB17 := Lib.hid (HB16.out.trans (hb17.mono HB16.out.size))
  have hn17 : nms 72 = ((List.range 72).map nm).map Value.string := by unfold nms; rw [List.map_map]; rfl
  have hnl : ((List.range 72).map nm).length = 72 := by simp
  obtain ⟨A17, c17, rfl, hs17⟩ := row_strs (l := (List.range 72).map nm) (by rw [hnl, ← hn17]; exact hr17)
  have HS17 := Lib.hid hs17
  clear hr17 hb17 hs17
  rw [hnl]
  go_wp2_with fail
  refine (rnames_any _).mono ?_
  rintro e w18 ⟨v18, rfl, hr18, hb18⟩
  have HB18 := Lib.hid (HB17.out.trans (hb18.mono HB17.out.size))
  obtain ⟨A18, c18, rfl, hs18⟩ := row_strs (l := (List.range 72).map nm) (by rw [hnl, ← hn17]; exact hr18)
  have HST := Lib.hid (same_texts ((List.range 72).map nm) A17 A18 c17 c18 w18 (Strs.below HS17.out hb18) hs18 (by rw [hnl]; omega))
  rw [hnl] at HST ⊢
  clear hr18 hb18 hs18 hn17 hnl
  go_wp2_with fail
  refine HST.out.mono ?_
  rintro e w19 ⟨rfl, hb19⟩
  have HB19 := Lib.hid (HB18.out.trans (hb19.mono HB18.out.size))
  clear hb19 HST
  go_wp2_with fail
  refine (lives_any _).mono ?_
  rintro e w20 ⟨rfl, hb20⟩
  have HB20 := Lib.hid (HB19.out.trans (hb20.mono HB19.out.size))
  clear hb20
  go_wp2_with fail
  go_ret
  exact ⟨rfl, HB20.out⟩
end Go.Proofs.YtpanbijlfijgfaaDoor.Fnd
