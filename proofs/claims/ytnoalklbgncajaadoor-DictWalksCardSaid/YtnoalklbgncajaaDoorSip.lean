/- The walk of sum.Sip: the words are mixed with each block of eight bytes, then with what is left and the length. -/
import Derived.Test.YtnoalklbgncajaaDoorSipW
import Derived.Test.YtnoalklbgncajaaDoorLow
import Derived.Lib.ConvBytes
import Derived.Lib.BufferWrite
import Derived.Deep.WholeRow
namespace Go.Proofs.YtnoalklbgncajaaDoor.Sip
open Go.RowKit Go.Proofs.YtnoalklbgncajaaDoor.Uw Go.Proofs.YtnoalklbgncajaaDoor.Pin Go.Proofs.YtnoalklbgncajaaDoor.Low
open Go.Lib (byteCells byteCells_length)

def key0 : BitVec 64 := 0x736f6d6570736575#64
def key1 : BitVec 64 := 0x646f72616e646f6d#64
def key2 : BitVec 64 := 0x6c7967656e657261#64
def key3 : BitVec 64 := 0x7465646279746573#64
theorem xk0 (P : Program) (t : TypeId) (w : World) (a : BitVec 64) : (binOp .xor t (U a) (.int .u64 8317987319222330741)).run P w = .ok (U (a ^^^ key0)) w := run_xor P t w a key0
theorem xk1 (P : Program) (t : TypeId) (w : World) (a : BitVec 64) : (binOp .xor t (U a) (.int .u64 7237128888997146477)).run P w = .ok (U (a ^^^ key1)) w := run_xor P t w a key1
theorem xk2 (P : Program) (t : TypeId) (w : World) (a : BitVec 64) : (binOp .xor t (U a) (.int .u64 7816392313619706465)).run P w = .ok (U (a ^^^ key2)) w := run_xor P t w a key2
theorem xk3 (P : Program) (t : TypeId) (w : World) (a : BitVec 64) : (binOp .xor t (U a) (.int .u64 8387220255154660723)).run P w = .ok (U (a ^^^ key3)) w := run_xor P t w a key3
theorem xff (P : Program) (t : TypeId) (w : World) (a : BitVec 64) : (binOp .xor t (U a) (.int .u64 255)).run P w = .ok (U (a ^^^ 255#64)) w := run_xor P t w a 255#64
attribute [local go_sem high] xk0 xk1 xk2 xk3 xff run_xor run_store_U eqGuard_U


theorem conv_bytes (w : World) (s : ByteArray) : (convert 9 68 (.string s)).run Tryd.prog w = .ok (.slice (some ⟨w.heap.size, 0, none⟩) s.size (grownCap w s.size 0 5)) (Lib.bytesWorld w 5 s) :=
  Lib.run_convert_string_bytes w 9 68 5 s Tryd.underlying9 Tryd.underlying68 Tryd.underlying5
/-- the world behind '[]byte(s)': one new block with the bytes; what was there stays -/
theorem bytes_world (w : World) (s : ByteArray) : ∃ W C, Lib.bytesWorld w 5 s = W ∧ grownCap w s.size 0 5 = C ∧ (∀ j (h : j < s.data.toList.length), W.cell? ⟨w.heap.size, j, none⟩ = some (.int .u8 (s.data.toList[j].toNat : Int))) ∧
    W.heap.size = w.heap.size + 1 ∧ Below w.heap.size w W := by
  refine ⟨_, _, rfl, rfl, fun j h => ?_, Lib.bytesWorld_size w _ s, ⟨rfl, rfl, rfl, by rw [Lib.bytesWorld_size]; omega, fun k hk => Lib.bytesWorld_at_old w _ s k hk⟩⟩
  rw [Lib.bytesWorld_cell w _ s j (by simpa using h)]
  simp at h
  simp [List.getD, h]

theorem Inv.below {w w' : World} {g : Nat} {v : V4} (h : Inv w g v) (hb : Below w.heap.size w w') : Inv w' g v := by
  have hlt : g < w.heap.size := (Array.getElem?_eq_some_iff.1 h).1
  unfold Inv at *
  rw [hb.block g hlt, h]
theorem Next.below {w w' : World} {g n : Nat} {v : V4} (h : Next w g v n w') {B : Nat} (hB : B ≤ g) : Below B w w' := by
  unfold Next at h
  subst h
  exact ⟨rfl, rfl, rfl, by simp, fun k hk => setRow_other w g k _ (by omega)⟩
theorem Next.inv {w w' : World} {g n : Nat} {v0 v : V4} (h0 : Inv w g v0) (h : Next w g v n w') : Inv w' g v := by unfold Next at h; subst h; exact h0.row v n
theorem Next.size {w w' : World} {g n : Nat} {v : V4} (h : Next w g v n w') : w'.heap.size = w.heap.size := by unfold Next at h; subst h; simp

/-- the words' state behind k blocks -/
def vAt (v : V4) (l : List UInt8) : Nat → V4
  | 0 => v
  | k + 1 => sipMix (vAt v l k) (lowN ((l.drop (8 * k)).take 8))
def start (a b : BitVec 64) : V4 := ⟨a ^^^ key0, b ^^^ key1, a ^^^ key2, b ^^^ key3⟩
def strLen : Value → Nat | .string r => r.size | _ => 0


def sipFin (v : V4) (m : BitVec 64) : BitVec 64 :=
  let u := sipMix v m
  let r := sipRounds 4 ⟨u.a, u.b, u.c ^^^ 255#64, u.d⟩
  r.a ^^^ r.b ^^^ r.c ^^^ r.d
/-- the last block: what is left, noughts, the length's low byte -/
def lastB (l : List UInt8) (n : Nat) : List UInt8 := l ++ List.replicate (7 - l.length) 0 ++ [UInt8.ofNat n]
def sipP (a b : BitVec 64) (l : List UInt8) : BitVec 64 :=
  sipFin (vAt (start a b) l (l.length / 8)) (lowN (lastB (l.drop (8 * (l.length / 8))) l.length))

/-- the last block's cells behind the copy -/
def padB (l : List UInt8) : Array Value := (byteCells l ++ List.replicate (8 - l.length) (Value.int .u8 0)).toArray
theorem copy8 (w : World) (r : ByteArray) (h : r.size < 8) :
    (Builtin.copy_ #[68, 9] 3 #[.slice (some ⟨w.heap.size, 0, none⟩) 8 8, .string r]).run Tryd.prog
      (w.alloc (.cells #[.int .u8 0, .int .u8 0, .int .u8 0, .int .u8 0, .int .u8 0, .int .u8 0, .int .u8 0, .int .u8 0] 85)) = .ok (goInt r.size) (w.alloc (.cells (padB r.data.toList) 85)) := by
  rw [Lib.run_copy_row_string _ 68 9 3 5 w.heap.size 0 8 8 r _ 85 Tryd.underlying68 (by kernel_rfl) (heap_alloc_new w _) (by omega) (by simp; omega)]
  rw [World.setRow_alloc_new]
  congr 3
  unfold padB
  congr 2
  have hl : r.data.toList.length = r.size := by rw [Array.length_toList]; rfl
  simp only [Nat.zero_add]
  rw [hl]
  congr 1
  have hz : ([.int .u8 0, .int .u8 0, .int .u8 0, .int .u8 0, .int .u8 0, .int .u8 0, .int .u8 0, .int .u8 0] : List Value) = List.replicate 8 (.int .u8 0) := rfl
  rw [hz, List.drop_replicate]
theorem pad7 (l : List UInt8) (h : l.length < 8) : (padB l)[7]? = some (.int .u8 0) := by
  unfold padB
  rw [List.getElem?_toArray, List.getElem?_append_right (by rw [byteCells_length]; omega), List.getElem?_replicate, if_pos (by rw [byteCells_length]; omega)]
theorem last_length (l : List UInt8) (n : Nat) (h : l.length < 8) : (lastB l n).length = 8 := by simp [lastB]; omega
theorem last_get (l : List UInt8) (n : Nat) (h : l.length < 8) (j : Nat) (hj : j < 8) :
    (lastB l n)[j]? = some (if j = 7 then UInt8.ofNat n else if j < l.length then l.getD j 0 else 0) := by
  unfold lastB
  by_cases h7 : j = 7
  · subst h7
    rw [if_pos rfl, List.getElem?_append_right (by simp; omega)]
    have : 7 - (l ++ List.replicate (7 - l.length) (0 : UInt8)).length = 0 := by simp; omega
    rw [this]; rfl
  · rw [if_neg h7, List.getElem?_append_left (by simp; omega)]
    by_cases hjl : j < l.length
    · rw [if_pos hjl, List.getElem?_append_left hjl, List.getElem?_eq_getElem hjl]
      simp [List.getD, hjl]
    · rw [if_neg hjl, List.getElem?_append_right (by omega), List.getElem?_replicate, if_pos (by omega)]
theorem last_cells (l : List UInt8) (n : Nat) (h : l.length < 8) (j : Nat) (hj : j < (lastB l n).length) :
    ((padB l).setIfInBounds 7 (.int .u8 ((n : Int) % 256)))[j]? = some (.int .u8 ((lastB l n)[j].toNat : Int)) := by
  have hlen : (lastB l n).length = 8 := last_length l n h
  have hg := last_get l n h j (by omega)
  rw [List.getElem?_eq_getElem hj] at hg
  rw [Option.some.inj hg]
  rw [Array.getElem?_setIfInBounds]
  by_cases h7 : 7 = j
  · subst h7
    rw [if_pos rfl, if_pos (by unfold padB; simp [byteCells_length]; omega), if_pos rfl]
    simp
  · rw [if_neg h7, if_neg (fun e => h7 e.symm)]
    unfold padB
    rw [List.getElem?_toArray]
    by_cases hjl : j < l.length
    · rw [List.getElem?_append_left (by rw [byteCells_length]; exact hjl), if_pos hjl]
      unfold byteCells
      rw [List.getElem?_map, List.getElem?_eq_getElem hjl]
      simp [List.getD, hjl]
    · rw [List.getElem?_append_right (by rw [byteCells_length]; omega), List.getElem?_replicate, if_pos (by rw [byteCells_length]; omega), if_neg hjl]
      rfl

set_option maxHeartbeats 1000000 in
set_option maxRecDepth 100000 in
theorem sip_any (a b : BitVec 64) (s : ByteArray) (w : World) (hs : s.size ≤ 140737488351232) :
    Calls Tryd.prog 30 #[U a, U b, .string s] w fun e w' => e = .returned (U (sipP a b s.data.toList)) ∧ Below w.heap.size w w' := by
  go_enter Tryd.func30, Tryd.ntmps30
  go_wp2_with fail
  obtain ⟨W, hW⟩ : ∃ W, W = w.alloc (Obj.cells #[U (a ^^^ key0), U (b ^^^ key1), U (a ^^^ key2), U (b ^^^ key3)] 82) := ⟨_, rfl⟩
  have I : Hid (Inv W w.heap.size (start a b)) := by rw [hW]; exact heap_alloc_new w _
  have L : Hid (Below w.heap.size w W) := by rw [hW]; exact (Below.refl _ _).alloc (Nat.le_refl _) _
  rw [← hW]
  clear hW
  go_loopw [2] (fun v wr => ∃ (k : Nat) (r : ByteArray), v = .string r ∧ Hid (8 * k + r.size = s.size) ∧ Hid (r.data.toList = s.data.toList.drop (8 * k)) ∧ Hid (Inv wr w.heap.size (vAt (start a b) s.data.toList k)) ∧ Hid (Below w.heap.size w wr)) (fun v _ => strLen v)
  case atStart => exact ⟨0, s, rfl, Lib.hid (by omega), Lib.hid rfl, I, L⟩
  case round =>
    obtain ⟨k, r, rfl, HK, HR, HI, HB⟩ := hrel
    clear I L
    have hr : r.size ≤ 140737488351232 := by have := HK.out; omega
    by_cases hlt : 8 ≤ r.size
    · go_wp2_with fail
      obtain ⟨q, hq⟩ : ∃ q, q = r.extract 0 8 := ⟨_, rfl⟩
      rw [← hq]
      have hq8 : q.size = 8 := by rw [hq, ByteArray.size_extract]; omega
      have hql : q.data.toList = r.data.toList.take 8 := by rw [hq]; simp
      have HQ := Lib.hid hql
      rw [conv_bytes]
      obtain ⟨W2, C, hconv, hcap, hcell, hsz, hbl⟩ := bytes_world wr q
      rw [hconv, hcap, hq8]
      have HC := Lib.hid hcell
      have HS := Lib.hid hsz
      have HL := Lib.hid hbl
      clear hq hql hconv hcap hcell hsz hbl
      go_wp2_with fail
      have hlow := low_any wr.heap.size q.data.toList C W2 (by rw [show q.data.toList.length = 8 from hq8]; omega) HC.out
      rw [show q.data.toList.length = 8 from hq8] at hlow
      refine hlow.mono ?_
      clear hlow
      rintro e w' ⟨rfl, rfl⟩
      have hI2 : Inv W2 w.heap.size (vAt (start a b) s.data.toList k) := HI.out.below HL.out
      go_wp2_with fail
      refine (mix_any w.heap.size _ _ W2 hI2).mono ?_
      rintro e W3 ⟨rfl, n3, N3⟩
      have I3 := Lib.hid (N3.inv hI2)
      have B3 := Lib.hid (N3.below (Nat.le_refl w.heap.size))
      clear N3 hI2
      go_wp2_with fail
      refine ⟨⟨k + 1, _, rfl, Lib.hid ?_, Lib.hid ?_, Lib.hid ?_, Lib.hid ?_⟩, by simp [strLen, ByteArray.size_extract]; omega⟩
      · have := HK.out
        rw [ByteArray.size_extract]; omega
      · have e1 : (r.extract 8 r.size).data.toList = r.data.toList.drop 8 := by
          simp
          rw [List.take_of_length_le (by rw [List.length_drop, Array.length_toList]; exact Nat.le_refl _)]
        rw [e1, HR.out, List.drop_drop]
        congr 1
      · have := I3.out
        rw [HQ.out, HR.out] at this
        exact this
      · exact (HB.out.trans (HL.out.mono HB.out.size)).trans B3.out
    · have hk8 : k = s.size / 8 := by have := HK.out; omega
      have HK8 := Lib.hid hk8
      clear hk8
      go_wp2_with fail
      rw [copy8 wr r (by omega)]
      have h7 := pad7 r.data.toList (by rw [Array.length_toList]; have : r.data.size = r.size := rfl; omega)
      go_wp2_with fail
      have hrl : r.data.toList.length < 8 := by rw [Array.length_toList]; have : r.data.size = r.size := rfl; omega
      have hll := last_length r.data.toList s.size hrl
      have hlow := low_any wr.heap.size (lastB r.data.toList s.size) 8 (wr.alloc (Obj.cells ((padB r.data.toList).setIfInBounds 7 (Value.int IntKind.u8 ((s.size : Int) % 256))) 85)) (by omega) (fun j hj => by
        rw [← last_cells r.data.toList s.size hrl j hj]
        simp)
      rw [hll] at hlow
      refine hlow.mono ?_
      clear hlow h7 hll
      rintro e w' ⟨rfl, rfl⟩
      obtain ⟨W2, hW2⟩ : ∃ W2, W2 = wr.alloc (Obj.cells ((padB r.data.toList).setIfInBounds 7 (Value.int IntKind.u8 ((s.size : Int) % 256))) 85) := ⟨_, rfl⟩
      have L2 : Hid (Below wr.heap.size wr W2) := by rw [hW2]; exact (Below.refl _ _).alloc (Nat.le_refl _) _
      rw [← hW2]
      clear hW2
      have hI2 : Inv W2 w.heap.size (vAt (start a b) s.data.toList k) := HI.out.below L2.out
      go_wp2_with fail
      refine (mix_any w.heap.size _ _ W2 hI2).mono ?_
      rintro e W3 ⟨rfl, n3, N3⟩
      have I3 := Lib.hid (N3.inv hI2)
      have B3 := Lib.hid (N3.below (Nat.le_refl w.heap.size))
      clear N3 hI2
      obtain ⟨u, hu⟩ : ∃ u, u = sipMix (vAt (start a b) s.data.toList k) (lowN (lastB r.data.toList s.size)) := ⟨_, rfl⟩
      rw [← hu] at I3
      have HU := Lib.hid hu
      clear hu
      obtain ⟨c0, c1, c2, c3, fz⟩ := I3.out.cells
      go_wp2_with fail
      rw [st2 I3.out]
      obtain ⟨W4, N4, e4, i4⟩ := I3.out.next ⟨u.a, u.b, u.c ^^^ 255#64, u.d⟩ 0
      rw [World.drewN_zero] at e4
      rw [e4]
      have B4 := Lib.hid (N4.below (Nat.le_refl w.heap.size))
      have I4 := Lib.hid i4
      clear N4 e4 i4 c0 c1 c2 c3 fz
      refine (rounds_any w.heap.size _ 4 (by omega) W4 I4).mono ?_
      rintro e W5 ⟨rfl, n5, N5⟩
      have I5 := Lib.hid (N5.inv I4.out)
      have B5 := Lib.hid (N5.below (Nat.le_refl w.heap.size))
      clear N5
      obtain ⟨c0, c1, c2, c3, fz⟩ := I5.out.cells
      go_wp2_with fail
      go_ret
      refine ⟨?_, (((HB.out.trans (L2.out.mono HB.out.size)).trans B3.out).trans B4.out).trans B5.out⟩
      have hsl : s.data.toList.length = s.size := by rw [Array.length_toList]; rfl
      unfold sipP sipFin
      rw [hsl, ← HK8.out, ← HR.out, ← HU.out]
      rfl
end Go.Proofs.YtnoalklbgncajaaDoor.Sip
