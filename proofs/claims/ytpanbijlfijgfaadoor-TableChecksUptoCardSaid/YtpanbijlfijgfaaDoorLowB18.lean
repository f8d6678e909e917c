/- The document's Lower, byte by byte; and what the two have in common. -/
import Derived.Test.YtpanbijlfijgfaaDoorLower18
namespace Go.Proofs.YtpanbijlfijgfaaDoor.Low18
open Go.RowKit

/-- a byte, A to Z as a to z -/
def lowB (c : UInt8) : UInt8 := if 65 ≤ c.toNat ∧ c.toNat ≤ 90 then c + 32 else c
def lowL (l : List UInt8) : List UInt8 := l.map lowB
/-- a byte that no name has -/
def High (l : List UInt8) : Prop := ∃ c ∈ l, 128 ≤ c.toNat

theorem high_of {l : List Int} (x : Int) (hx : x ∈ l) (h0 : 128 ≤ x) (h1 : x < 256) : High (l.map fun x => x.toNat.toUInt8) := by
  refine ⟨x.toNat.toUInt8, List.mem_map.2 ⟨x, hx, rfl⟩, ?_⟩
  rw [Nat.toUInt8_eq, UInt8.toNat_ofNat']
  omega
theorem enc_high (r : Nat) (h : 128 ≤ r) : High (Lib.encodeRune (r : Int)) := by
  unfold Lib.encodeRune Lib.encodeRuneZ
  rw [if_neg (by omega)]
  split
  · exact high_of (128 + (r : Int) % 64) (by simp) (by omega) (by omega)
  · split
    · exact high_of (128 + (r : Int) % 64) (by simp) (by omega) (by omega)
    · split
      · exact high_of (128 + (r : Int) % 64) (by simp) (by omega) (by omega)
      · exact high_of 239 (by simp) (by omega) (by omega)
theorem High.left {l m : List UInt8} (h : High l) : High (l ++ m) := let ⟨c, hc, h⟩ := h; ⟨c, by simp [hc], h⟩
theorem High.right {l m : List UInt8} (h : High m) : High (l ++ m) := let ⟨c, hc, h⟩ := h; ⟨c, by simp [hc], h⟩
theorem High.low {l : List UInt8} (h : High l) : High (lowL l) := by
  obtain ⟨c, hc, h⟩ := h
  refine ⟨c, List.mem_map.2 ⟨c, hc, ?_⟩, h⟩
  unfold lowB
  rw [if_neg (by omega)]
theorem enc_low (c : UInt8) (h : c.toNat < 128) : Lib.encodeRune (lowRune c.toNat : Nat) = [lowB c] := by
  have hr : lowRune c.toNat ≤ 127 := by unfold lowRune; split <;> omega
  unfold Lib.encodeRune
  rw [Lib.encodeRuneZ_one (by omega) (by omega)]
  simp only [List.map_cons, List.map_nil, List.cons.injEq, and_true]
  apply UInt8.toNat_inj.1
  rw [Nat.toUInt8_eq, UInt8.toNat_ofNat']
  unfold lowRune lowB
  split
  · rw [UInt8.toNat_add]; simp; omega
  · omega
theorem low_or (s : ByteArray) : ∀ (fuel pos : Nat), s.size ≤ pos + fuel → (High (lowFrom s fuel pos) ∧ High (s.data.toList.drop pos)) ∨ lowFrom s fuel pos = lowL (s.data.toList.drop pos)
  | 0, pos, h => by
    refine .inr ?_
    rw [List.drop_of_length_le (by rw [Array.length_toList]; exact h)]
    rfl
  | fuel + 1, pos, h => by
    by_cases hp : pos < s.size
    · have hd : s.data.toList.drop pos = s[pos] :: s.data.toList.drop (pos + 1) := by
        rw [List.drop_eq_getElem_cons (by rw [Array.length_toList]; exact hp)]
        rfl
      simp only [lowFrom, if_pos hp]
      by_cases hc : s[pos].toNat < 128
      · rw [decode_ascii s pos hp hc, hd, enc_low _ hc]
        rcases low_or s fuel (pos + 1) (by omega) with ⟨h1, h2⟩ | h1
        · exact .inl ⟨High.right h1, High.right (l := [s[pos]]) h2⟩
        · exact .inr (by rw [h1]; rfl)
      · have hh := decode_high s pos hp (by omega)
        have hl : lowRune (Utf8.decode s pos).1 = (Utf8.decode s pos).1 := by unfold lowRune; rw [if_neg (by omega)]
        rw [hl]
        exact .inl ⟨(enc_high _ hh.1).left, by rw [hd]; exact ⟨s[pos], by simp, by omega⟩⟩
    · refine .inr ?_
      rw [List.drop_of_length_le (by rw [Array.length_toList]; exact Nat.le_of_not_lt hp), lowFrom_end _ _ _ hp]
      rfl
theorem low_text (s : ByteArray) : (High (lowT s) ∧ High (lowL s.data.toList)) ∨ lowT s = lowL s.data.toList := by
  rcases low_or s s.size 0 (by omega) with ⟨h1, h2⟩ | h1
  · exact .inl ⟨h1, High.low h2⟩
  · exact .inr h1
end Go.Proofs.YtpanbijlfijgfaaDoor.Low18
