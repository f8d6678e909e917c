/- The walk of the document's Lower. -/
import Derived.Test.YtpanbijlfijgfaaDoorLowB18
import Derived.Test.YtpanbijlfijgfaaDoorBytes
import Derived.Test.YtpanbijlfijgfaaDoorPin
import Derived.Lib.ConvBytes
namespace Go.Proofs.YtpanbijlfijgfaaDoor.Low18
open Go.RowKit Go.Proofs.YtpanbijlfijgfaaDoor.Byt Go.Proofs.YtpanbijlfijgfaaDoor.Pin

theorem conv_bytes (w : World) (s : ByteArray) : (convert 9 72 (.string s)).run Tryd.prog w = .ok (.slice (some ⟨w.heap.size, 0, none⟩) s.size (grownCap w s.size 0 5)) (Lib.bytesWorld w 5 s) :=
  Lib.run_convert_string_bytes w 9 72 5 s Tryd.underlying9 Tryd.underlying72 Tryd.underlying5
/-- the world behind '[]byte(s)', its bytes to be written -/
theorem bytes_own (w : World) (s : ByteArray) : ∃ W C, Lib.bytesWorld w 5 s = W ∧ grownCap w s.size 0 5 = C ∧ Bytes W w.heap.size s.data.toList ∧ Below w.heap.size w W := by
  refine ⟨_, _, rfl, rfl, fun j h => ⟨?_, ?_⟩, ⟨rfl, rfl, rfl, by rw [Lib.bytesWorld_size]; omega, fun k hk => Lib.bytesWorld_at_old w _ s k hk⟩⟩
  · rw [Lib.bytesWorld_cell w _ s j (by simpa using h)]
    simp at h
    simp [List.getD, h]
  · have hg := Lib.bytesWorld_at_new w 5 s
    have hl : j < (Lib.bytesCells w 5 s).size := by
      unfold Lib.bytesCells
      rw [Array.size_append]
      rw [Array.length_toList] at h
      have e : s.data.size = s.size := rfl
      simp
      omega
    simp [World.frozen?, hg]
    omega


theorem add32 (x : UInt8) (h : x.toNat ≤ 90) : (x.toNat : Int) + 32 = ((x + 32).toNat : Int) := by
  rw [UInt8.toNat_add, show (32 : UInt8).toNat = 32 from rfl]
  omega
theorem set_low {l : List UInt8} {k : Nat} (h : k < l.length) : (lowL (l.take k) ++ l.drop k).set k (lowB l[k]) = lowL (l.take (k + 1)) ++ l.drop (k + 1) := by
  have hl : (lowL (l.take k)).length = k := by simp [lowL]; omega
  rw [List.set_append_right _ _ (by omega), hl, Nat.sub_self, List.drop_eq_getElem_cons h, List.set_cons_zero, List.take_succ_eq_append_getElem h]
  simp only [lowL, List.map_append, List.map_cons, List.map_nil, List.append_assoc, List.cons_append, List.nil_append]
theorem mid_get {l : List UInt8} {k : Nat} (h : k < l.length) : (lowL (l.take k) ++ l.drop k)[k]? = some l[k] := by
  have hl : (lowL (l.take k)).length = k := by simp [lowL]; omega
  rw [List.getElem?_append_right (by omega), hl, Nat.sub_self, List.drop_eq_getElem_cons h]
  rfl
theorem mid_len {l : List UInt8} {k : Nat} (h : k ≤ l.length) : (lowL (l.take k) ++ l.drop k).length = l.length := by
  simp [lowL]; omega

set_option maxHeartbeats 2000000 in
set_option maxRecDepth 100000 in
theorem ref_lower (s : ByteArray) (w : World) (hs : s.size ≤ 140737488351232) :
    Calls Tryd.prog 58 #[.string s] w fun e w' => e = .returned (.string ⟨(lowL s.data.toList).toArray⟩) ∧ Below w.heap.size w w' := by
  go_enter Tryd.func58, Tryd.ntmps58
  go_wp2_with fail
  rw [conv_bytes]
  obtain ⟨W, C, hconv, hcap, hby, hbl⟩ := bytes_own w s
  rw [hconv, hcap]
  obtain ⟨l, hl⟩ : ∃ l, l = s.data.toList := ⟨_, rfl⟩
  have hll : l.length = s.size := by rw [hl, Array.length_toList]; rfl
  rw [← hl] at hby
  have HE := Lib.hid hl
  have HBY := Lib.hid hby
  have HB := Lib.hid hbl
  clear hconv hcap hby hbl hl
  go_wp2_with fail
  go_loopw [4] (fun i wr => ∃ (k : Nat), k ≤ l.length ∧ i = .int .i64 k ∧ Hid (Bytes wr w.heap.size (lowL (l.take k) ++ l.drop k)) ∧ Hid (Below w.heap.size w wr)) (fun i _ => l.length - (intOf i).toNat)
  case atStart => exact ⟨0, by omega, rfl, by simpa [lowL] using HBY, HB⟩
  case round =>
    obtain ⟨k, hk, rfl, HY, HW⟩ := hrel
    clear HBY HB
    by_cases hlt : k < l.length
    · obtain ⟨x, hx⟩ : ∃ x, x = l[k] := ⟨_, rfl⟩
      have hml := mid_len hk
      obtain ⟨hcl, hfz⟩ := HY.out k (by omega)
      have hg := mid_get hlt
      rw [List.getElem?_eq_getElem (by omega)] at hg
      injection hg with hg
      rw [hg, ← hx] at hcl
      have HX := Lib.hid (set_low hlt)
      rw [← hx] at HX
      have hxb : (x.toNat : Int) < 256 := by have := x.toNat_lt; omega
      clear hx hg
      have hks : (k : Int) < (s.size : Int) := by omega
      by_cases h65 : 65 ≤ x.toNat ∧ x.toNat ≤ 90
      · have hlow : lowB x = x + 32 := by unfold lowB; rw [if_pos h65]
        have hadd := Lib.hid (add32 x h65.2)
        obtain ⟨h65, h90⟩ := h65
        have h65' : (65 : Int) ≤ (x.toNat : Int) := by omega
        have h90' : (x.toNat : Int) ≤ 90 := by omega
        go_wp2_with fail
        rw [hadd.out]
        refine ⟨⟨k + 1, by omega, by go_num, Lib.hid ?_, Lib.hid (HW.out.setCell (Nat.le_refl _) _)⟩, by simp [intOf]; omega⟩
        rw [← HX.out, hlow]
        exact HY.out.set (by omega) _
      · have hlow : lowB x = x := by unfold lowB; rw [if_neg h65]
        have hnx : Hid (Bytes wr w.heap.size (lowL (l.take (k + 1)) ++ l.drop (k + 1))) := by
          refine Lib.hid ?_
          rw [← HX.out, hlow]
          have h1 := HY.out
          intro j hj
          rw [List.length_set] at hj
          obtain ⟨g0, g1⟩ := h1 j hj
          refine ⟨?_, g1⟩
          rw [g0]
          by_cases e : k = j
          · subst e
            rw [g0] at hcl
            injection hcl with hcl
            rw [hcl]
            simp
          · rw [List.getElem_set_ne e]
        have h65' : (x.toNat : Int) < 65 ∨ (90 : Int) < (x.toNat : Int) := by omega
        rcases h65' with h65' | h65'
        · go_wp2_with fail
          exact ⟨⟨k + 1, by omega, by go_num, hnx, HW⟩, by simp [intOf]; omega⟩
        · go_wp2_with fail
          exact ⟨⟨k + 1, by omega, by go_num, hnx, HW⟩, by simp [intOf]; omega⟩
    · have e : k = l.length := by omega
      subst e
      have hnlt : ¬ (l.length : Int) < (s.size : Int) := by omega
      have hcv := HY.out.str C
      rw [mid_len hk, List.take_length, List.drop_length, List.append_nil, hll] at hcv
      go_wp2_with fail
      go_ret
      exact ⟨by rw [HE.out]; rfl, HW.out⟩
end Go.Proofs.YtpanbijlfijgfaaDoor.Low18
