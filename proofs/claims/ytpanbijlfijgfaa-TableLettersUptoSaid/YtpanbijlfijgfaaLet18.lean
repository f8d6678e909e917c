/- A text in other letters: bytes a to z as A to Z leave the lowered text as it is. -/
import Derived.Test.YtpanbijlfijgfaaLowB18
namespace Go.Proofs.Ytpanbijlfijgfaa.Low18
open Go.RowKit

/-- d is s, some of its letters raised -/
def Up (s d : ByteArray) : Prop := s.size = d.size ∧ ∀ i, i < s.size → (d.get! i = s.get! i ∨ (97 ≤ (s.get! i).toNat ∧ (s.get! i).toNat ≤ 122 ∧ (d.get! i).toNat = (s.get! i).toNat - 32))

/-- decode, of the bytes and of whether they are there and go on -/
def dec (b0 b1 b2 b3 : Nat) (c1 c2 c3 : Bool) : Nat × Nat :=
  if b0 < 0x80 then (b0, 1)
  else if b0 / 32 == 6 && c1 then
    let c := (b0 % 32) * 64 + b1 % 64
    if c ≥ 0x80 then (c, 2) else (Utf8.runeError, 1)
  else if b0 / 16 == 14 && c1 && c2 then
    let c := (b0 % 16) * 4096 + (b1 % 64) * 64 + b2 % 64
    if c ≥ 0x800 && Utf8.valid c then (c, 3) else (Utf8.runeError, 1)
  else if b0 / 8 == 30 && c1 && c2 && c3 then
    let c := (b0 % 8) * 262144 + (b1 % 64) * 4096 + (b2 % 64) * 64 + b3 % 64
    if c ≥ 0x10000 && Utf8.valid c then (c, 4) else (Utf8.runeError, 1)
  else (Utf8.runeError, 1)
theorem dec_eq (s : ByteArray) (i : Nat) : Utf8.decode s i = dec (s.get! i).toNat (s.get! (i + 1)).toNat (s.get! (i + 2)).toNat (s.get! (i + 3)).toNat
    (decide (i + 1 < s.size) && (s.get! (i + 1)).toNat / 64 == 2) (decide (i + 2 < s.size) && (s.get! (i + 2)).toNat / 64 == 2) (decide (i + 3 < s.size) && (s.get! (i + 3)).toNat / 64 == 2) := rfl
theorem dec_same (b0 b1 b2 b3 d1 d2 d3 : Nat) (c1 c2 c3 : Bool) (h1 : c1 = true → b1 = d1) (h2 : c2 = true → b2 = d2) (h3 : c3 = true → b3 = d3) : dec b0 b1 b2 b3 c1 c2 c3 = dec b0 d1 d2 d3 c1 c2 c3 := by
  cases c1 <;> cases c2 <;> cases c3 <;> simp at h1 h2 h3 <;> simp only [dec, Bool.and_false, Bool.and_true, Bool.false_eq_true, if_false] <;> subst_vars <;> rfl
theorem up_cont {s d : ByteArray} (h : Up s d) (k : Nat) : (decide (k < s.size) && (s.get! k).toNat / 64 == 2) = (decide (k < d.size) && (d.get! k).toNat / 64 == 2) ∧
    ((decide (k < s.size) && (s.get! k).toNat / 64 == 2) = true → (s.get! k).toNat = (d.get! k).toNat) := by
  rw [← h.1]
  by_cases hk : k < s.size
  · rcases h.2 k hk with e | ⟨e1, e2, e3⟩
    · rw [e]; exact ⟨rfl, fun _ => rfl⟩
    · have a1 : ((s.get! k).toNat / 64 == 2) = false := by rw [beq_eq_false_iff_ne]; omega
      have a2 : ((d.get! k).toNat / 64 == 2) = false := by rw [beq_eq_false_iff_ne]; omega
      rw [a1, a2]
      exact ⟨rfl, fun h => by simp at h⟩
  · simp [hk]
theorem get_at {s : ByteArray} {i : Nat} (h : i < s.size) : s.get! i = s[i] := by
  show s.data[i]! = s.data[i]
  exact getElem!_pos s.data i h
theorem up_decode {s d : ByteArray} (h : Up s d) (i : Nat) (hi : i < s.size) (hs : 128 ≤ (s.get! i).toNat) : Utf8.decode d i = Utf8.decode s i := by
  have e0 : (s.get! i).toNat = (d.get! i).toNat := by
    rcases h.2 i hi with e | ⟨_, e, _⟩
    · rw [e]
    · omega
  rw [dec_eq, dec_eq, ← e0]
  obtain ⟨a1, b1⟩ := up_cont h (i + 1)
  obtain ⟨a2, b2⟩ := up_cont h (i + 2)
  obtain ⟨a3, b3⟩ := up_cont h (i + 3)
  rw [← a1, ← a2, ← a3]
  exact (dec_same _ _ _ _ _ _ _ _ _ _ b1 b2 b3).symm
theorem up_low {s d : ByteArray} (h : Up s d) : ∀ (fuel pos : Nat), lowFrom d fuel pos = lowFrom s fuel pos
  | 0, _ => rfl
  | fuel + 1, pos => by
    by_cases hp : pos < s.size
    · have hp' : pos < d.size := by rw [← h.1]; exact hp
      simp only [lowFrom, if_pos hp, if_pos hp']
      by_cases hs : 128 ≤ (s.get! pos).toNat
      · rw [up_decode h pos hp hs, up_low h fuel]
      · have hs' : (s[pos]).toNat < 128 := by rw [← get_at hp]; omega
        have hd' : (d[pos]).toNat < 128 := by
          rw [← get_at hp']
          rcases h.2 pos hp with e | ⟨_, _, e⟩
          · rw [e]; omega
          · omega
        rw [decode_ascii s pos hp hs', decode_ascii d pos hp' hd', up_low h fuel]
        have e : lowRune (d[pos]).toNat = lowRune (s[pos]).toNat := by
          rw [← get_at hp, ← get_at hp']
          unfold lowRune
          rcases h.2 pos hp with e | ⟨e1, e2, e3⟩
          · rw [e]
          · rw [if_pos (by omega), if_neg (by omega)]; omega
        rw [e]
    · have hp' : ¬ pos < d.size := by rw [← h.1]; exact hp
      rw [lowFrom_end _ _ _ hp, lowFrom_end _ _ _ hp']
theorem up_lowT {s d : ByteArray} (h : Up s d) : lowT d = lowT s := by unfold lowT; rw [← h.1]; exact up_low h _ _
end Go.Proofs.Ytpanbijlfijgfaa.Low18
