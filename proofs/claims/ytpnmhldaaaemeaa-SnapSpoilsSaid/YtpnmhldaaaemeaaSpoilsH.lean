import Derived.Test.YtpnmhldaaaemeaaMa21
import Derived.Test.YtpnmhldaaaemeaaMa12
import Derived.Test.YtpnmhldaaaemeaaProg
import Derived.WalkKit
import Derived.Laws.BytesArg
import Derived.Deep.Draws
import Derived.Test.YtpnmhldaaaemeaaRows
import Derived.Test.YtpnmhldaaaemeaaMa22
import Derived.SizedLaws
import Derived.OpenShut
import Derived.Lib.SmallJoins
/- Chapter 24's laws: Encode of any items, and the sizes at a law's head. -/
namespace Go.Proofs.Ytpnmhldaaaemeaa.Snp
open Go.RowKit Go.Proofs.Ytpnmhldaaaemeaa.Pin
/-- items of a law -/
structure Its (w : World) (v : Value) (l : List It) : Prop where
  at_ : ItemsAt w w.heap.size v l
  len : l.length ≤ 140737488351232
  vab : ∀ it ∈ l, VaB it.val
  ids : ∀ it ∈ l, IdsB it.val
  itt : ∀ it ∈ l, ItT it
theorem Its.below {w w' : World} {v : Value} {l : List It} (h : Its w v l) (hb : Below w.heap.size w w') : Its w' v l := ⟨(h.at_.below hb).more hb.size, h.len, h.vab, h.ids, h.itt⟩
noncomputable def encS (l : List It) : List UInt8 := if pb (CheckP l) = true then encB l else []
theorem encS_yes {l : List It} (h : CheckP l) : encS l = encB l := by unfold encS; rw [pb_true h]; rfl
theorem encS_no {l : List It} (h : ¬ CheckP l) : encS l = [] := by unfold encS; rw [pb_false h]; rfl
theorem Its.enc {w : World} {v : Value} {l : List It} (h : Its w v l) (hs : szBy szIt l ≤ 1048576) :
    Calls Try.prog 13 #[v] w fun e w' => e = .returned (.tuple #[.string ⟨(encS l).toArray⟩, .int .i64 (eno (CheckP l))]) ∧ Below w.heap.size w w' := by
  by_cases hc : CheckP l
  · rw [encS_yes hc, eno_yes hc]
    exact enc_yes l v w h.at_ h.len h.vab h.ids (by have := enc_len l; omega) hc
  · rw [encS_no hc, eno_no hc]
    exact enc_no l v w h.at_ h.len h.vab hc
theorem Its.check {w : World} {v : Value} {l : List It} (h : Its w v l) : Calls Try.prog 10 #[v] w fun e w' => e = .returned (.int .i64 (eno (CheckP l))) ∧ Below w.heap.size w w' := check_any l v w h.at_ h.len h.vab
theorem Its.size {w : World} {v : Value} {l : List It} (h : Its w v l) : Sized 9 #[v] w 4503599627370496 (szBy szIt l) := sz_items l v w h.at_ h.len h.vab h.itt
theorem Its.ok {w : World} {v : Value} {l : List It} (h : Its w v l) (hc : CheckP l) : ∀ it ∈ l, ItOk it := ok_all hc h.vab h.ids
/-- Decode where nothing is read -/
theorem decode_no {s : List UInt8} (hd : decP s = none) (w : World) (hs : s.length ≤ 549755813888) : Calls Try.prog 14 #[.string ⟨s.toArray⟩] w fun e w' => e = .returned (.tuple #[.slice none 0 0, .int .i64 4]) ∧ Below w.heap.size w w' :=
  (decode_any s w hs).mono fun e w' ⟨h1, h2⟩ => by rw [hd] at h2; exact ⟨h2, h1⟩
theorem decode_yes {s : List UInt8} {l : List It} (hd : decP s = some l) (w : World) (hs : s.length ≤ 549755813888) : Calls Try.prog 14 #[.string ⟨s.toArray⟩] w fun e w' => (∃ v, e = .returned (.tuple #[v, .int .i64 0]) ∧ ItemsAt w' w'.heap.size v l) ∧ Below w.heap.size w w' :=
  (decode_any s w hs).mono fun e w' ⟨h1, h2⟩ => by
    rw [hd] at h2
    obtain ⟨v, rfl, h⟩ := h2
    exact ⟨⟨v, rfl, items_at h⟩, h1⟩
end Go.Proofs.Ytpnmhldaaaemeaa.Snp
/- Bursts, as plain mathematics: turning one bit of a text adds to its checksum what the register makes of that bit; no bits within one word make nought. -/
namespace Go.Proofs.Ytpnmhldaaaemeaa.Sum

theorem citer_add (m n : Nat) (x : BitVec 64) : citer (m + n) x = citer m (citer n x) := by
  induction m with
  | zero => simp [citer]
  | succ m ih => rw [Nat.succ_add, citer, citer, ih]
theorem cstep_zero {x : BitVec 64} (h : cstep x = 0#64) : x = 0#64 := by
  rw [cstep_eq] at h
  have h0 : x.getLsbD 0 = false := by
    cases hb : x.getLsbD 0 with
    | false => rfl
    | true =>
      rw [hb] at h
      have h63 := congrArg (fun y => y.getLsbD 63) h
      simp only [BitVec.getLsbD_xor, BitVec.getLsbD_ushiftRight, if_true] at h63
      rw [BitVec.getLsbD_of_ge x (1 + 63) (by omega)] at h63
      revert h63
      decide
  rw [h0] at h
  simp at h
  apply BitVec.eq_of_getLsbD_eq
  intro i hi
  cases i with
  | zero => rw [h0]; simp
  | succ i =>
    have := congrArg (fun y => y.getLsbD i) h
    simp [BitVec.getLsbD_ushiftRight] at this
    rw [Nat.add_comm, this]
    simp
theorem citer_nought {n : Nat} {x : BitVec 64} (h : citer n x = 0#64) : x = 0#64 := by
  induction n with
  | zero => exact h
  | succ n ih => exact ih (cstep_zero h)
/-- a word's bit, moved to the register's end -/
theorem citer_bit (i : Nat) (hi : i < 64) : citer i (1#64 <<< i) = 1#64 := by
  rw [citer_high i _ (fun j hj => by simp [hj])]
  apply BitVec.eq_of_getLsbD_eq
  intro j hj
  simp
  by_cases h : j = 0
  · subst h; simp [hi]
  · simp [h]
theorem tstep_xor (a b : BitVec 64) (c : UInt8) : tstep (a ^^^ b) c = tstep a c ^^^ citer 8 b := by
  rw [tstep_eq, tstep_eq, show a ^^^ b ^^^ zx c = (a ^^^ zx c) ^^^ b by rw [BitVec.xor_assoc, BitVec.xor_comm b, ← BitVec.xor_assoc], citer_xor]
theorem crcT_xor (a b : BitVec 64) (l : List UInt8) : crcT (a ^^^ b) l = crcT a l ^^^ citer (8 * l.length) b := by
  induction l generalizing a b with
  | nil => simp [crcT, citer]
  | cons c l ih =>
    have e : 8 * (c :: l).length = 8 * l.length + 8 := by simp; omega
    rw [e, citer_add]
    show crcT (tstep (a ^^^ b) c) l = crcT (tstep a c) l ^^^ _
    rw [tstep_xor, ih]
theorem zx_xor (x m : UInt8) : zx (x ^^^ m) = zx x ^^^ zx m := by
  unfold zx
  apply BitVec.eq_of_getLsbD_eq
  intro i hi
  simp
theorem crcT_set (s : BitVec 64) : ∀ (l : List UInt8) (q : Nat) (h : q < l.length) (m : UInt8), crcT s (l.set q (l[q] ^^^ m)) = crcT s l ^^^ citer (8 * (l.length - q)) (zx m)
  | [], q, h, m => by simp at h
  | c :: l, 0, h, m => by
    show crcT (tstep s (c ^^^ m)) l = crcT (tstep s c) l ^^^ _
    rw [tstep_eq, zx_xor, ← BitVec.xor_assoc, citer_xor, crcT_xor, ← tstep_eq, ← citer_add]
    congr 2
  | c :: l, q + 1, h, m => by
    have hq : q < l.length := by simpa using h
    show crcT (tstep s c) (l.set q (l[q] ^^^ m)) = crcT (tstep s c) l ^^^ _
    rw [crcT_set (tstep s c) l q hq m]
    congr 2
    simp
/-- the byte with one bit -/
def bit8 (r : Nat) : UInt8 := UInt8.ofBitVec (1#8 <<< r)
theorem zx_bit8 (r : Nat) (hr : r < 8) : zx (bit8 r) = 1#64 <<< r := by
  have : r = 0 ∨ r = 1 ∨ r = 2 ∨ r = 3 ∨ r = 4 ∨ r = 5 ∨ r = 6 ∨ r = 7 := by omega
  rcases this with rfl | rfl | rfl | rfl | rfl | rfl | rfl | rfl <;> decide
/-- one more bit of a burst -/
theorem burst_step (s0 : BitVec 64) (l : List UInt8) (x acc : BitVec 64) (f i n : Nat) (hn : n = f + i) (hi : i < 64) (hl : n < 8 * l.length) (hq : n / 8 < l.length)
    (h : crcT s0 l = x ^^^ citer (8 * l.length - f) acc) :
    crcT s0 (l.set (n / 8) (l[n / 8] ^^^ bit8 (n % 8))) = x ^^^ citer (8 * l.length - f) (acc ^^^ (1#64 <<< i)) := by
  rw [crcT_set s0 l (n / 8) hq, h, zx_bit8 _ (by omega), citer_xor, BitVec.xor_assoc]
  congr 2
  rw [show 8 * (l.length - n / 8) = (8 * l.length - n) + n % 8 by omega, citer_add, citer_bit _ (by omega),
    show 8 * l.length - f = (8 * l.length - n) + i by omega, citer_add, citer_bit _ hi]
theorem acc_high {acc : BitVec 64} {i : Nat} (h : ∀ j, i ≤ j → acc.getLsbD j = false) (hi : i < 64) :
    (acc ^^^ (1#64 <<< i) ≠ 0#64) ∧ ∀ j, i + 1 ≤ j → (acc ^^^ (1#64 <<< i)).getLsbD j = false := by
  constructor
  · intro e
    have := congrArg (fun y => y.getLsbD i) e
    simp only [BitVec.getLsbD_xor, h i (Nat.le_refl i)] at this
    simp [hi] at this
  · intro j hj
    rw [BitVec.getLsbD_xor, h j (by omega), BitVec.getLsbD_shiftLeft]
    simp
    intro _ _
    omega
theorem burst_end {s0 x acc : BitVec 64} {l : List UInt8} {n : Nat} (h : crcT s0 l = x ^^^ citer n acc) : ((crcT s0 l != x) == (acc != 0#64)) = true := by
  rw [h]
  by_cases e : acc = 0#64
  · subst e; rw [citer_zero]; simp
  · have hne : citer n acc ≠ 0#64 := fun hz => e (citer_nought hz)
    have : x ^^^ citer n acc ≠ x := fun hx => hne (by
      have := congrArg (fun y => x ^^^ y) hx
      simpa [← BitVec.xor_assoc] using this)
    rw [bne_iff_ne.2 this, bne_iff_ne.2 e]; rfl
end Go.Proofs.Ytpnmhldaaaemeaa.Sum
/- Chapter 24: the checksum of a text and its own checksum behind it is nought; so what a burst has spoilt is not read. -/
namespace Go.Proofs.Ytpnmhldaaaemeaa.Snp
open Go.RowKit Go.Proofs.Ytpnmhldaaaemeaa.Pin Go.Proofs.Ytpnmhldaaaemeaa.Sum

theorem or_xor (W : BitVec 64) (c : UInt8) : (W <<< 8) ||| Low.zxw c = (W <<< 8) ^^^ zx c := by
  apply BitVec.eq_of_getLsbD_eq
  intro i hi
  simp only [BitVec.getLsbD_or, BitVec.getLsbD_xor, BitVec.getLsbD_shiftLeft, Low.zxw, zx, BitVec.getLsbD_setWidth]
  by_cases h : i < 8
  · simp [h]
  · rw [BitVec.getLsbD_of_ge c.toBitVec i (by omega)]
    simp
theorem crcT_word : ∀ (l : List UInt8) (s : BitVec 64), l.length ≤ 8 → crcT s l = citer (8 * l.length) (s ^^^ Low.lowN l)
  | [], s, _ => by simp [crcT, citer, Low.lowN]
  | c :: l, s, h => by
    have hl : l.length ≤ 7 := by simpa using h
    have e : 8 * (c :: l).length = 8 * l.length + 8 := by simp; omega
    show crcT (tstep s c) l = _
    rw [crcT_word l _ (by omega), e, citer_add, tstep_eq]
    congr 1
    show _ = citer 8 (s ^^^ ((Low.lowN l <<< 8) ||| Low.zxw c))
    rw [or_xor, BitVec.xor_comm (Low.lowN l <<< 8), ← BitVec.xor_assoc, citer_xor 8 (s ^^^ zx c) (Low.lowN l <<< 8)]
    congr 1
    rw [citer_high 8 _ (fun i hi => by simp [hi])]
    apply BitVec.eq_of_toNat_eq
    rw [BitVec.toNat_ushiftRight, BitVec.toNat_shiftLeft, Nat.shiftLeft_eq, Nat.shiftRight_eq_div_pow]
    have h1 := lowN_lt l
    rw [← low_same l (by omega)] at h1
    have h3 : (256 : Nat) ^ l.length ≤ 256 ^ 7 := Nat.pow_le_pow_right (by decide) hl
    have h7 : (256 : Nat) ^ 7 = 72057594037927936 := by decide
    omega
theorem crc_own (r : BitVec 64) : crcT r (leB r.toNat 8) = 0#64 := by
  rw [crcT_word _ r (by rw [leB_len]; exact Nat.le_refl _), show Low.lowN (leB r.toNat 8) = r from by
    apply BitVec.eq_of_toNat_eq
    rw [low_same _ (by rw [leB_len]; exact Nat.le_refl _), lowN_leB]
    exact Nat.mod_eq_of_lt r.isLt, BitVec.xor_self, citer_zero]
theorem crc_app (s : BitVec 64) (a b : List UInt8) : crcT s (a ++ b) = crcT (crcT s a) b := by simp [crcT, List.foldl_append]
theorem crc_enc (l : List It) : crcT 0#64 (encB l) = 0#64 := by
  rw [encB, crc_app]
  exact crc_own _
/-- a text whose checksum is not nought is no snapshot -/
theorem dec_spoilt {s : List UInt8} (h : crcT 0#64 s ≠ 0#64) : decP s = none := by
  cases hd : decP s with
  | none => rfl
  | some l =>
    obtain ⟨_, _, e⟩ := decP_some hd
    rw [e] at h
    exact absurd (crc_enc l) h
end Go.Proofs.Ytpnmhldaaaemeaa.Snp
/- Bytes that lie in a block of the call's own: read, set, seen as a text. -/
namespace Go.Proofs.Ytpnmhldaaaemeaa.Byt
open Go.RowKit

def Bytes (w : World) (g : Nat) (l : List UInt8) : Prop := ∀ j (h : j < l.length), w.cell? ⟨g, j, none⟩ = some (.int .u8 (l[j].toNat : Int)) ∧ w.frozen? ⟨g, j, none⟩ = false
theorem Bytes.set {w : World} {g : Nat} {l : List UInt8} (h : Bytes w g l) {q : Nat} (hq : q < l.length) (v : UInt8) : Bytes (w.setCell ⟨g, q, none⟩ (.int .u8 (v.toNat : Int))) g (l.set q v) := by
  intro j hj
  have hj' : j < l.length := by simpa using hj
  refine ⟨?_, by rw [World.frozen?_setCell]; exact (h j hj').2⟩
  by_cases e : q = j
  · subst e
    rw [World.cell?_setCell_same w _ _ (h q hq).1]
    simp
  · rw [World.cell?_setCell_other w _ _ _ (by intro e'; injection e' with _ e'; exact e e'), (h j hj').1]
    simp [e]
theorem Bytes.drewN {w : World} {g : Nat} {l : List UInt8} (h : Bytes w g l) (n : Nat) : Bytes (w.drewN n) g l := h
set_option maxRecDepth 100000 in
theorem Bytes.str {w : World} {g : Nat} {l : List UInt8} (h : Bytes w g l) (cap : Nat) :
    (convert 46 9 (.slice (some ⟨g, 0, none⟩) l.length cap)).run Try.prog w = .ok (.string ⟨l.toArray⟩) w := by
  have hc := run_convert_bytes_arg (P := Try.prog) w 46 5 Try.underlying46 Try.underlying5 g 0 l.length cap (l.map fun b => (b.toNat : Int)) (by simp) (fun i hi => by
    rw [Nat.zero_add, (h i hi).1]
    simp [List.getD, hi]) 9 Try.underlying9
  rw [hc]
  congr 2
  unfold strOfNums
  congr 1
  rw [List.map_map]
  congr 1
  conv => rhs; rw [← List.map_id l]
  apply List.map_congr_left
  intro b _
  simp
end Go.Proofs.Ytpnmhldaaaemeaa.Byt
/- The walk of SnapSpoils: it answers true. -/
namespace Go.Proofs.Ytpnmhldaaaemeaa.Snp
open Go.RowKit Go.Proofs.Ytpnmhldaaaemeaa.Pin Go.Proofs.Ytpnmhldaaaemeaa.Sum Go.Proofs.Ytpnmhldaaaemeaa.Uw Go.Proofs.Ytpnmhldaaaemeaa.Byt
attribute [local go_sem high] run_eql run_neq eqGuard_U
theorem and1U (P : Program) (t : TypeId) (w : World) (a : BitVec 64) : (binOp .and t (U a) (.int .u64 1)).run P w = .ok (U (a &&& 1#64)) w := run_and P t w a 1#64
theorem eq1U (P : Program) (t : TypeId) (w : World) (a : BitVec 64) : (binOp .eql t (U a) (.int .u64 1)).run P w = .ok (.bool (a == 1#64)) w := run_eql P t w a 1#64
theorem eq0U (P : Program) (t : TypeId) (w : World) (a : BitVec 64) : (binOp .eql t (U a) (.int .u64 0)).run P w = .ok (.bool (a == 0#64)) w := run_eql P t w a 0#64
attribute [local go_sem high] and1U eq1U eq0U
theorem bit_eq (t : BitVec 64) (i : Nat) : ((t >>> i &&& 1#64) == 1#64) = t.getLsbD i := by
  rw [and_one]
  have : (t >>> i).getLsbD 0 = t.getLsbD i := by simp
  rw [this]
  cases t.getLsbD i <;> rfl
theorem pow_bit (r : Nat) (hr : r < 8) : ((2 : Int) ^ r % 256) = ((bit8 r).toNat : Int) := by
  have : r = 0 ∨ r = 1 ∨ r = 2 ∨ r = 3 ∨ r = 4 ∨ r = 5 ∨ r = 6 ∨ r = 7 := by omega
  rcases this with rfl | rfl | rfl | rfl | rfl | rfl | rfl | rfl <;> rfl
theorem xor_bit (x : UInt8) (r : Nat) (hr : r < 8) : bits .xor .u8 (x.toNat : Int) ((2 : Int) ^ r % 256) = ((x ^^^ bit8 r).toNat : Int) := by
  rw [pow_bit r hr, u8_xor_nat _ _ x.toNat_lt (bit8 r).toNat_lt, UInt8.toNat_xor]
/-- the world behind '[]byte(s)', its bytes to be written -/
theorem bytes_own (w : World) (s : ByteArray) : ∃ W C, Lib.bytesWorld w 5 s = W ∧ grownCap w s.size 0 5 = C ∧ Bytes W w.heap.size s.data.toList ∧ Below w.heap.size w W := by
  refine ⟨_, _, rfl, rfl, fun j h => ⟨?_, ?_⟩, ⟨rfl, rfl, rfl, by rw [Lib.bytesWorld_size]; omega, fun k hk => Lib.bytesWorld_at_old w _ s k hk⟩⟩
  · rw [Lib.bytesWorld_cell w _ s j (by simpa using h)]
    simp at h
    simp [List.getD, h]
  · have hg := Lib.bytesWorld_at_new w 5 s
    have hl : j < (Lib.bytesCells w 5 s).size := by
      unfold Lib.bytesCells
      rw [Array.size_append]
      rw [Array.length_toList] at h
      have e : s.data.size = s.size := rfl
      simp
      omega
    simp [World.frozen?, hg]
    omega
set_option maxHeartbeats 8000000 in
set_option maxRecDepth 100000 in
theorem spoils_walk (l0 : List It) (v : Value) (at' : Nat) (t : BitVec 64) (w : World) (hl : Its w v l0) (ha : at' < 4294967296) :
    Calls Try.prog 6 #[v, .int .u32 (at' : Int), U t] w fun e w' => e = .returned (.bool true) ∧ Below w.heap.size w w' := by
  have HL := Lib.hid hl
  clear hl
  go_enter Try.func6, Try.ntmps6
  go_wp2_with fail
  refine (alive_any _).mono ?_
  rintro e w1 ⟨rfl, hb1⟩
  have HB1 := Lib.hid hb1
  clear hb1
  go_wp2_with fail
  refine ((HL.out.below HB1.out).size).mono ?_
  rintro e w3 ⟨n1, rfl, hn1, hs1, hb2⟩
  have HB3 := Lib.hid (HB1.out.trans (hb2.mono HB1.out.size))
  have HN1 := Lib.hid hn1
  have HS1 := Lib.hid hs1
  clear hb2 hn1 hs1
  go_wp2_with fail
  have hcl : ∀ j (h : j < [(n1 : Int)].length), (w3.alloc (.cells #[.int .i64 (n1 : Int)] 3)).cell? ⟨w3.heap.size, j, none⟩ = some (.int .i64 [(n1 : Int)][j]) := by
    intro j hj
    have : j = 0 := by simpa using hj
    subst this
    simp
  have HB4 : Hid (Below w.heap.size w (w3.alloc (.cells #[.int .i64 (n1 : Int)] 3))) := Lib.hid (HB3.out.alloc HB3.out.size _)
  refine (Bey.beyond_any [(n1 : Int)] 1 w3.heap.size _ (by simp) (by intro x hx; obtain rfl := List.mem_singleton.1 hx; have := HN1.out; omega) hcl).mono ?_
  rintro e w4 ⟨rfl, rfl⟩
  cases hq : Bey.beyond 0 [(n1 : Int)] with
  | true =>
    clear hcl hq
    go_wp2_with fail
    refine (alive_any _).mono ?_
    rintro e w3 ⟨rfl, hb3⟩
    have HB3 := Lib.hid (HB4.out.trans (hb3.mono HB4.out.size))
    clear hb3
    go_wp2_with fail
    go_ret
    exact ⟨rfl, HB3.out⟩
  | false =>
    have hle : n1 ≤ 1048576 := by
      have h := hq
      simp only [Bey.beyond, Int.zero_add] at h
      split at h
      · cases h
      · omega
    have HZ1 : Hid (szBy szIt l0 ≤ 1048576) := Lib.hid (by have h1 := HS1.out hle; omega)
    obtain ⟨W2, hW2⟩ : ∃ W2, W2 = w3.alloc (.cells #[.int .i64 (n1 : Int)] 3) := ⟨_, rfl⟩
    rw [← hW2] at HB4 ⊢
    clear hcl hq hW2 HB1 HB3 hle HN1 HS1
    by_cases ht : t = 0#64
    · have ht0 : (t == 0#64) = true := by rw [beq_iff_eq]; exact ht
      clear ht
      go_wp2_with fail
      refine (alive_any _).mono ?_
      rintro e w3 ⟨rfl, hb3⟩
      have HB3 := Lib.hid (HB4.out.trans (hb3.mono HB4.out.size))
      clear hb3
      go_wp2_with fail
      go_ret
      exact ⟨rfl, HB3.out⟩
    · have ht0 : (t == 0#64) = false := by rw [beq_eq_false_iff_ne]; exact ht
      clear ht
      go_wp2_with fail
      refine ((HL.out.below HB4.out).enc HZ1.out).mono ?_
      rintro e w5 ⟨rfl, hb5⟩
      have HB5 := Lib.hid (HB4.out.trans (hb5.mono HB4.out.size))
      clear hb5
      by_cases hc : CheckP l0
      · rw [encS_yes hc, eno_yes hc]
        have hel := enc_len l0
        have hz1 := HZ1.out
        obtain ⟨s, hs⟩ : ∃ s, s = encB l0 := ⟨_, rfl⟩
        rw [← hs] at hel ⊢
        obtain ⟨L, hL⟩ : ∃ L, L = s.length := ⟨_, rfl⟩
        have hpos : 19 ≤ L := by
          rw [hL, hs, enc_eq hc]
          have := itemsE_len l0
          simp only [List.length_append, magic_len, leB_len]
          omega
        have hLs : L ≤ 100000000 := by omega
        have HSE := Lib.hid (show decP s = some l0 ∧ crcT 0#64 s = 0#64 from ⟨by rw [hs]; exact decP_enc (HL.out.ok hc) hc, by rw [hs]; exact crc_enc l0⟩)
        obtain ⟨W2', C, hconv, hcap, hby, hbl⟩ := bytes_own w5 ⟨s.toArray⟩
        have hcv := conv_bytes_of w5 ⟨s.toArray⟩
        rw [hconv, hcap, size_of, ← hL] at hcv
        have HBY : Hid (Bytes W2' w5.heap.size s) := Lib.hid (by simpa using hby)
        have B2 := Lib.hid (HB5.out.trans (hbl.mono HB5.out.size))
        have hgW := HB5.out.size
        obtain ⟨f, hf⟩ : ∃ f : Nat, f = at' % (8 * L) := ⟨_, rfl⟩
        have hf' : ((at' : Int) % (8 * (L : Int))) = (f : Int) := by rw [hf, Int.natCast_emod, Int.natCast_mul]; rfl
        have hfl : f < 8 * L := by rw [hf]; exact Nat.mod_lt _ (by omega)
        have hne : ¬ (8 * (L : Int)) = 0 := by omega
        have HSL := Lib.hid hL
        clear hf hconv hcap hby hbl hel hz1 hs hL hc
        go_wp2_with fail
        rw [hf']
        go_loopw [11, 12] (fun sm i wr => ∃ (k : Nat) (acc : BitVec 64) (l : List UInt8), k ≤ 64 ∧ i = .int .i64 k ∧ sm = .bool (acc != 0#64) ∧ Hid (l.length = L) ∧ Hid (crcT 0#64 l = crcT 0#64 s ^^^ citer (8 * l.length - f) acc) ∧ Hid (acc = 0#64 → l = s) ∧ Hid (∀ j, k ≤ j → acc.getLsbD j = false) ∧ Hid (Bytes wr w5.heap.size l) ∧ Hid (Below w.heap.size w wr)) (fun _ i _ => 64 - (intOf i).toNat)
        case atStart => exact ⟨0, 0#64, s, by omega, rfl, rfl, Lib.hid HSL.out.symm, Lib.hid (by rw [citer_zero]; simp), Lib.hid (fun _ => rfl), Lib.hid (by simp), HBY, B2⟩
        case round =>
          obtain ⟨k, acc, l, hk, rfl, rfl, HLL, HC, HE, HA, HY, HW⟩ := hrel
          clear HBY B2 hcv
          obtain ⟨n, hn⟩ : ∃ n, n = f + k := ⟨_, rfl⟩
          have hn' : ((f : Int) + (k : Int)) = (n : Int) := by omega
          have HN := Lib.hid hn
          by_cases hlt : k < 64 ∧ n < 8 * L
          · obtain ⟨hlt, hin⟩ := hlt
            have hin' : (n : Int) < 8 * (L : Int) := by omega
            have hshr : ∀ w : World, (binOp .shr 27 (U t) (.int .i64 (k : Int))).run Try.prog w = .ok (U (t >>> k)) w := fun w => run_shr Try.prog 27 w k .i64 t (by omega)
            clear hn
            by_cases hbit : t.getLsbD k = true
            · have hb1 : ((t >>> k &&& 1#64) == 1#64) = true := by rw [bit_eq]; exact hbit
              have hq : n / 8 < l.length := by rw [HLL.out]; omega
              obtain ⟨hcl, hfz⟩ := HY.out (n / 8) hq
              obtain ⟨x, hx⟩ : ∃ x, x = l[n / 8] := ⟨_, rfl⟩
              rw [← hx] at hcl
              have HX := Lib.hid hx
              clear hx
              have hwn : IntKind.i64.wrap (n : Int) = (n : Int) := by rw [IntKind.wrap_i64]; omega
              have hquo : IntKind.i64.wrap ((n : Int).tdiv 8) = (n : Int) / 8 := by rw [Int.tdiv_eq_ediv_of_nonneg (by omega), IntKind.wrap_i64]; omega
              have hquo' : IntKind.i64.wrap ((n : Int) / 8) = (n : Int) / 8 := by rw [IntKind.wrap_i64]; omega
              have htm : (n : Int).tmod 8 = (n : Int) % 8 := Int.tmod_eq_emod_of_nonneg (by omega)
              have hp0 : (0 : Int) ≤ (n : Int) / 8 := by omega
              have hp1 : (n : Int) / 8 < (L : Int) := by omega
              have hp2 : ((n : Int) / 8).toNat = n / 8 := by omega
              go_wp2_with fail
              refine wp_region_pin [0,0,0,0,0,0,0,0,0,0,0,1,0,0,0,0,0,0,0,2] (by kernel_rfl) (by kernel_rfl) ?_
              (refine pin_pure (fun K hK => ?_); go_simp; refine hK _ _ ?_; clear hK K)
              (refine pin_pure (fun K hK => ?_); go_simp; refine hK _ _ ?_; clear hK K)
              (refine pin_pure (fun K hK => ?_); go_simp; refine hK _ _ ?_; clear hK K)
              (refine pin_pure (fun K hK => ?_); go_simp; refine hK _ _ ?_; clear hK K)
              (refine pin_pure (fun K hK => ?_); go_simp; refine hK _ _ ?_; clear hK K)
              (refine pin_pure (fun K hK => ?_); go_simp; refine hK _ _ ?_; clear hK K)
              (refine pin_pure (fun K hK => ?_); go_simp; refine hK _ _ ?_; clear hK K)
              (refine pin_pure (fun K hK => ?_); go_simp; refine hK _ _ ?_; clear hK K)
              (refine pin_pure (fun K hK => ?_); go_simp; refine hK _ _ ?_; clear hK K)
              (refine pin_pure (fun K hK => ?_); go_simp; refine hK _ _ ?_; clear hK K)
              (refine pin_pure (fun K hK => ?_); go_simp; refine hK _ _ ?_; clear hK K)
              (refine pin_read (fun K hK => ?_); go_simp; refine hK _ _ ?_; clear hK K)
              (refine pin_pure (fun K hK => ?_); go_simp; refine hK _ _ ?_; clear hK K)
              (refine pin_pure (fun K hK => ?_); go_simp; refine hK _ _ ?_; clear hK K)
              (refine pin_pure (fun K hK => ?_); go_simp; refine hK _ _ ?_; clear hK K)
              (refine pin_pure (fun K hK => ?_); go_simp; refine hK _ _ ?_; clear hK K)
              (refine pin_pure (fun K hK => ?_); go_simp; refine hK _ _ ?_; clear hK K)
              (refine pin_pure (fun K hK => ?_); go_simp; refine hK _ _ ?_; clear hK K)
              (refine pin_pure (fun K hK => ?_); go_simp; refine hK _ _ ?_; clear hK K)
              (refine pin_write (fun K hK => ?_); go_simp; refine fun nw => ⟨_, ⟨_, rfl⟩, hK _ _ ?_⟩; clear hK K)
              refine pin_nil ?_
              intro nq
              go_wp2_with fail
              go_roundw
              case measure => simp [intOf]; omega
              case rel =>
                have hah := acc_high HA.out hlt
                refine ⟨k + 1, acc ^^^ (1#64 <<< k), l.set (n / 8) (l[n / 8]'hq ^^^ bit8 (n % 8)), by omega, by go_num, ?_, Lib.hid (by rw [List.length_set]; exact HLL.out), Lib.hid ?_, Lib.hid (fun h => absurd h hah.1), Lib.hid hah.2, Lib.hid ?_, Lib.hid ?_⟩
                · rw [bne_iff_ne.2 hah.1]
                · rw [List.length_set]
                  exact burst_step 0#64 l _ acc f k n HN.out hlt (by rw [HLL.out]; omega) hq HC.out
                · rw [← HX.out, xor_bit x (n % 8) (Nat.mod_lt _ (by decide))]
                  exact (HY.out.set hq (x ^^^ bit8 (n % 8))).drewN _
                · exact below_drewN (HW.out.setCell hgW _) _
            · have hb1 : ((t >>> k &&& 1#64) == 1#64) = false := by rw [bit_eq]; simpa using hbit
              go_wp2_with fail
              exact ⟨⟨k + 1, acc, l, by omega, by go_num, rfl, HLL, HC, HE, Lib.hid (fun j hj => HA.out j (by omega)), HY, HW⟩, by simp [intOf]; omega⟩
          · have hcv := HY.out.str C
            rw [HLL.out] at hcv
            have HLT := Lib.hid hlt
            have HLLs : Hid (l.length ≤ 100000000) := Lib.hid (by rw [HLL.out]; exact hLs)
            clear hn
            by_cases hk64 : k < 64
            · have hin' : ¬ (n : Int) < 8 * (L : Int) := by have := HLT.out; omega
              by_cases hz : acc = 0#64
              · have e0 : (acc != 0#64) = false := by rw [hz]; rfl
                have HD := Lib.hid (decode_yes (s := l) (by rw [HE.out hz]; exact HSE.out.1))
                clear hz
                rw [e0]
                go_wp2_with fail
                refine (HD.out _ (by have := HLLs.out; omega)).mono ?_
                rintro e w6 ⟨⟨u, rfl, -⟩, hb6⟩
                have HB6 := Lib.hid (HW.out.trans (hb6.mono HW.out.size))
                clear hb6
                go_wp2_with fail
                go_ret
                exact ⟨rfl, HB6.out⟩
              · have e0 : (acc != 0#64) = true := bne_iff_ne.2 hz
                have HD := Lib.hid (decode_no (s := l) (dec_spoilt (fun h => hz (citer_nought (by rw [HC.out, HSE.out.2] at h; simpa using h)))))
                clear hz
                rw [e0]
                go_wp2_with fail
                refine (HD.out _ (by have := HLLs.out; omega)).mono ?_
                rintro e w6 ⟨rfl, hb6⟩
                have HB6 := Lib.hid (HW.out.trans (hb6.mono HW.out.size))
                clear hb6
                go_wp2_with fail
                go_ret
                exact ⟨rfl, HB6.out⟩
            · have hlt' : ¬ (k : Int) < 64 := by omega
              by_cases hz : acc = 0#64
              · have e0 : (acc != 0#64) = false := by rw [hz]; rfl
                have HD := Lib.hid (decode_yes (s := l) (by rw [HE.out hz]; exact HSE.out.1))
                clear hz
                rw [e0]
                go_wp2_with fail
                refine (HD.out _ (by have := HLLs.out; omega)).mono ?_
                rintro e w6 ⟨⟨u, rfl, -⟩, hb6⟩
                have HB6 := Lib.hid (HW.out.trans (hb6.mono HW.out.size))
                clear hb6
                go_wp2_with fail
                go_ret
                exact ⟨rfl, HB6.out⟩
              · have e0 : (acc != 0#64) = true := bne_iff_ne.2 hz
                have HD := Lib.hid (decode_no (s := l) (dec_spoilt (fun h => hz (citer_nought (by rw [HC.out, HSE.out.2] at h; simpa using h)))))
                clear hz
                rw [e0]
                go_wp2_with fail
                refine (HD.out _ (by have := HLLs.out; omega)).mono ?_
                rintro e w6 ⟨rfl, hb6⟩
                have HB6 := Lib.hid (HW.out.trans (hb6.mono HW.out.size))
                clear hb6
                go_wp2_with fail
                go_ret
                exact ⟨rfl, HB6.out⟩
      · rw [encS_no hc, eno_no hc]
        clear hc
        go_wp2_with fail
        go_ret
        exact ⟨rfl, HB5.out⟩
theorem spoils_any (l0 : List It) (v : Value) (at' t : Nat) (w : World) (hl : Its w v l0) (ha : at' < 4294967296) (ht : t < 18446744073709551616) :
    Calls Try.prog 6 #[v, .int .u32 (at' : Int), .int .u64 (t : Int)] w fun e w' => e = .returned (.bool true) ∧ Below w.heap.size w w' := by
  have h := spoils_walk l0 v at' (BitVec.ofNat 64 t) w hl ha
  have hU : Uw.U (BitVec.ofNat 64 t) = .int .u64 (t : Int) := by unfold Uw.U; rw [BitVec.toNat_ofNat, Nat.mod_eq_of_lt (by omega)]
  rw [hU] at h
  exact h
end Go.Proofs.Ytpnmhldaaaemeaa.Snp
/- The statement SnapSpoils: for every input the law's function returns true, and its arguments read as before. The row's step round the walk. -/
namespace Go.Proofs.Ytpnmhldaaaemeaa.SnapSpoils
open Go.Proofs.Ytpnmhldaaaemeaa.Snp Go.Proofs.Ytpnmhldaaaemeaa.Rdg Go.ChangeShapes Go.WideShapes Go.ChangeAt Go.RowKit Go.Joins Go.Proofs.Ytpnmhldaaaemeaa.Law
open Go.ChangeMaps (open_string)
set_option linter.unusedVariables false

theorem own : ownKnob Try.prog.godebug = none := by kernel_rfl

set_option maxRecDepth 100000 in
theorem lifted (os : Os) (started : os.Started) (H : Type) (enc : TypeId × Value → H) :
    ReturnsInHanded {} Try.checked os 6 .any (Rows.snapSpoilsSpec.pre6 enc Try.prog Try.f6 Rows.snapSpoilsRow.domain false) (Rows.snapSpoilsSpec.post enc Try.prog Try.f6 false true false false) := by
  refine returnsInHanded_of_change_sized (C := Try.checked) own started (by kernel_rfl) Try.func6
    (ChangeSpec.witness6 (enc := enc) (C := Try.checked) false ⟨#[], #[.slice none 0 0, .int .u32 0, .int .u64 0], []⟩ 8 (by kernel_rfl) (by kernel_rfl) (by kernel_rfl) (by kernel_rfl)) ?_
  intro W base args ds gs before hval0 hW hcnd hsz0 _
  have hval : ∀ (j : Nat) t v, Try.f6.params[j]? = some t → args[j]? = some v → Value.okWide Try.prog W .any base t v := hval0
  have hW' := hW
  obtain ⟨p, q, hA0, hV, rfl, hfz, hnd⟩ := hW
  have hA : DataW.TrodAll enc Try.prog W 0 (fun _ => true) true Try.f6.params.toList args.toList ds p := hA0
  have hsz : (DataW.weightsEach Try.prog (Try.f6.params.toList ++ Rows.snapSpoilsSpec.plain.varTypes Try.prog) (ds ++ gs)).all (· ≤ reachBytes) = true := hsz0
  rw [Try.params6] at hA hval hsz
  obtain ⟨v0, vs0, d0, ds0, p0, q0, hargs, rfl, rfl, h0, r0⟩ := trodAll_cons hA
  obtain ⟨v1, vs1, d1, ds1, p1, q1, rfl, rfl, rfl, h1, r1⟩ := trodAll_cons r0
  obtain ⟨v2, vs2, d2, ds2, p2, q2, rfl, rfl, rfl, h2, r2⟩ := trodAll_cons r1
  obtain ⟨rfl, rfl, rfl⟩ := trodAll_nil r2
  obtain rfl : args = #[v0, v1, v2] := by cases args; simp_all
  obtain ⟨rfl, rfl⟩ := trodVars_none hV
  obtain ⟨fuel0, hf0⟩ := h0
  obtain ⟨l0, hs0⟩ := rd_items _ _ _ hf0 (fun n hn => by
    have := List.all_eq_true.1 hsz n (DataW.weights_mem_each (j := 0) rfl rfl n hn)
    simpa using this)
  obtain ⟨u0, hc0, ha0, hl0, hb0⟩ := items_of hs0
  obtain ⟨A0, n0, c0, rfl⟩ := okWide_slice Try.underlying36 (hval 0 36 v0 rfl rfl)
  obtain rfl : (.slice A0 n0 c0 : Value) = u0 := by simpa [Value.cells] using hc0
  have hi0 : Its W (.slice A0 n0 c0) l0 := ⟨ha0, hl0, fun it hit => (hb0 it hit).vab, fun it hit => (hb0 it hit).ids, fun it hit => (hb0 it hit).itt⟩
  obtain ⟨x1, rfl, rfl, rfl, w1⟩ := open_int Try.underlying40 (hval 1 40 v1 rfl rfl) h1
  obtain ⟨x2, rfl, rfl, rfl, w2⟩ := open_int Try.underlying27 (hval 2 27 v2 rfl rfl) h2
  simp only [Lit.wf, Bool.and_eq_true, decide_eq_true_eq] at w1 w2
  have m1 : IntKind.u32.min = 0 := rfl
  have m2 : IntKind.u32.max = 4294967295 := rfl
  have m3 : IntKind.u64.min = 0 := rfl
  have m4 : IntKind.u64.max = 18446744073709551615 := rfl
  obtain ⟨y1, rfl⟩ : ∃ y1 : Nat, x1 = (y1 : Int) := ⟨x1.toNat, by omega⟩
  obtain ⟨y2, rfl⟩ : ∃ y2 : Nat, x2 = (y2 : Int) := ⟨x2.toNat, by omega⟩
  refine (spoils_any l0 _ y1 y2 W hi0 (by omega) (by omega)).mono fun e W' ⟨he, hg⟩ => ?_
  subst he
  exact ⟨_, rfl, law_post (bt := 4) (by kernel_rfl) (by kernel_rfl) Try.underlying4 rfl rfl hW' rfl hg⟩

theorem proved : Rows.SnapSpoilsSaid :=
  OpenClaim.holds_of_wide 6 Try.f6 rfl rfl rfl rfl rfl rfl rfl ⟨rfl, rfl, rfl, rfl, rfl⟩ rfl rfl rfl rfl rfl (by kernel_rfl) Try.func6 (by kernel_rfl)
    (of_decide_eq_true (by kernel_rfl)) (by unfold Func.isWrapper; first | (rw [if_pos (by decide +kernel)]; kernel_rfl) | (rw [if_neg (by decide +kernel)]; exact ⟨rfl, rfl⟩))
    (fun os started H enc _ => lifted os started H enc)
end Go.Proofs.Ytpnmhldaaaemeaa.SnapSpoils
