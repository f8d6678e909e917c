/- The disk as the laws see it, and which blocks are its own. -/
import Derived.Test.YtjjcicfilbfbjaaCrP04
namespace Go.Proofs.Ytjjcicfilbfbjaa.Dsk
open Go.RowKit Go.Maps Go.Sort Go.Proofs.Ytjjcicfilbfbjaa.Pin Go.Proofs.Ytjjcicfilbfbjaa.Gon Go.Proofs.Ytjjcicfilbfbjaa.Mps

/-- at block g a disk of these files, whose blocks are 'own' -/
def Do (w : World) (own : List Nat) (g : Nat) (C n : Int) (l : List Abs) : Prop := ∃ M N fs, DiskAt w g M N C (tot l : Nat) n fs ∧ fs.map Fil.abs = l ∧ own = owns g M N fs
theorem Do.same {w w' : World} {own : List Nat} {g : Nat} {C n : Int} {l : List Abs} (h : Do w own g C n l) (hs : ∀ r ∈ own, w'.heap[r]? = w.heap[r]?) : Do w' own g C n l := by
  obtain ⟨M, N, fs, hd, he, rfl⟩ := h
  exact ⟨M, N, fs, ⟨(hs g (by simp [owns])).trans hd.disk, (hs N (by simp [owns])).trans hd.count, hd.map.same (hs M (by simp [owns])), fun f hf => (hd.files f hf).same (fun r hr => hs r (by
    simp only [owns, List.mem_cons, List.mem_flatMap]
    exact .inr (.inr (.inr ⟨f, hf, hr⟩)))), hd.apart⟩, he, rfl⟩
theorem Do.drewN {w : World} {own : List Nat} {g : Nat} {C n : Int} {l : List Abs} (h : Do w own g C n l) (k : Nat) : Do (w.drewN k) own g C n l := h.same (fun _ _ => rfl)
theorem Do.lt {w : World} {own : List Nat} {g : Nat} {C n : Int} {l : List Abs} (h : Do w own g C n l) : ∀ r ∈ own, r < w.heap.size := by
  obtain ⟨M, N, fs, hd, he, rfl⟩ := h
  exact hd.lt
theorem Do.below {w w' : World} {own : List Nat} {g : Nat} {C n : Int} {l : List Abs} (h : Do w own g C n l) (hb : Below w.heap.size w w') : Do w' own g C n l := h.same (fun r hr => hb.block r (h.lt r hr))
theorem Do.dk {w : World} {own : List Nat} {g : Nat} {C n : Int} {l : List Abs} (h : Do w own g C n l) : Dk w 0 g C n l := by
  obtain ⟨M, N, fs, hd, he, rfl⟩ := h
  exact ⟨M, N, fs, hd, he, fun _ _ => Nat.zero_le _⟩
theorem Dk.own {w : World} {B g : Nat} {C n : Int} {l : List Abs} (h : Dk w B g C n l) : ∃ own, Do w own g C n l ∧ ∀ r ∈ own, B ≤ r := by
  obtain ⟨M, N, fs, hd, he, ho⟩ := h
  exact ⟨_, ⟨M, N, fs, hd, he, rfl⟩, ho⟩
theorem append_o (own : List Nat) (g : Nat) (C n : Int) (la : List Abs) (a : Abs) (lb : List Abs) (s : ByteArray) (w : World) (h : Do w own g C n (la ++ a :: lb)) (hf : Fine C (la ++ a :: lb)) (h1 : 0 < a.1.size) (hn : ¬ n = 0) (h64 : n < 9223372036854775808) (hs : (tot (la ++ a :: lb) : Int) + s.size ≤ C) :
    Calls Try.prog 9 #[.pointer (some ⟨g, 0, none⟩), .string a.1, .string s] w fun e w' => e = .returned (.int .i64 0) ∧ ∃ own', Do w' own' g C (nextn n) (la ++ (a.1, a.2.1 ++ s, a.2.2) :: lb) ∧ Turned own own' w w' := by
  obtain ⟨M, N, fs, hd, he, rfl⟩ := h
  obtain ⟨fa, f, fb, rfl, e1, e2, e3⟩ := split_abs he
  subst e1 e2 e3
  refine (append_old g M N C _ n fa f fb s w hd (by rw [names_abs he]; exact hf.names) h1 (hf.small f.abs (by simp)) hn h64 (by omega) hf.cap hs ?_).mono ?_
  · rw [tot_split]
    have : f.abs.2.1.size = f.bytes.size := rfl
    omega
  · rintro e w' ⟨rfl, v, hd', ht⟩
    have hz : ((tot (List.map Fil.abs fa ++ f.abs :: List.map Fil.abs fb) : Nat) : Int) + (s.size : Int) = ((tot (List.map Fil.abs fa ++ (f.abs.1, f.abs.2.1 ++ s, f.abs.2.2) :: List.map Fil.abs fb) : Nat) : Int) := by
      rw [tot_split, tot_split]
      have : (f.abs.2.1 ++ s).size = f.abs.2.1.size + s.size := size_append _ _
      show _ = ((_ + (f.abs.2.1 ++ s).size + _ : Nat) : Int)
      omega
    rw [hz] at hd'
    exact ⟨rfl, _, ⟨_, _, _, hd', (by simp [Fil.add, Fil.abs]), rfl⟩, ht⟩
theorem append_no (own : List Nat) (g : Nat) (C n : Int) (l : List Abs) (nm s : ByteArray) (w : World) (h : Do w own g C n l) (hf : Fine C l) (hnew : ∀ a ∈ l, a.1 ≠ nm) (h1 : 0 < nm.size) (h2 : nm.size ≤ 255) (hn : ¬ n = 0) (h64 : n < 9223372036854775808) (hs : (tot l : Int) + s.size ≤ C) :
    Calls Try.prog 9 #[.pointer (some ⟨g, 0, none⟩), .string nm, .string s] w fun e w' => e = .returned (.int .i64 0) ∧ ∃ own', Do w' own' g C (nextn n) (l ++ [(nm, s, 0)]) ∧ Turned own own' w w' := by
  obtain ⟨M, N, fs, hd, rfl, rfl⟩ := h
  refine (append_new g M N C _ n fs nm s w hd (fun f hf2 => hnew f.abs (List.mem_map.2 ⟨f, hf2, rfl⟩)) h1 h2 hn h64 (by omega) hf.cap hs).mono ?_
  rintro e w' ⟨rfl, cb, v, hd', ht⟩
  have hz : ((tot (fs.map Fil.abs) : Nat) : Int) + (s.size : Int) = ((tot (fs.map Fil.abs ++ [(nm, s, 0)]) : Nat) : Int) := by
    rw [tot_append]
    simp [tot]
  rw [hz] at hd'
  exact ⟨rfl, _, ⟨_, _, _, hd', (by simp [Fil.abs]), rfl⟩, ht⟩
theorem sync_o (own : List Nat) (g : Nat) (C n : Int) (la : List Abs) (a : Abs) (lb : List Abs) (w : World) (h : Do w own g C n (la ++ a :: lb)) (hf : Fine C (la ++ a :: lb)) (hn : ¬ n = 0) (h64 : n < 9223372036854775808) :
    Calls Try.prog 11 #[.pointer (some ⟨g, 0, none⟩), .string a.1] w fun e w' => e = .returned (.int .i64 0) ∧ ∃ own', Do w' own' g C (nextn n) (la ++ (a.1, a.2.1, a.2.1.size) :: lb) ∧ Turned own own' w w' := by
  obtain ⟨M, N, fs, hd, he, rfl⟩ := h
  obtain ⟨fa, f, fb, rfl, e1, e2, e3⟩ := split_abs he
  subst e1 e2 e3
  refine (sync_yes g M N C _ n fa f fb w hd (by rw [names_abs he]; exact hf.names) hn h64).mono ?_
  rintro e w' ⟨rfl, hd', ht⟩
  have hz : tot (List.map Fil.abs fa ++ f.abs :: List.map Fil.abs fb) = tot (List.map Fil.abs fa ++ (f.abs.1, f.abs.2.1, f.abs.2.1.size) :: List.map Fil.abs fb) := by
    rw [tot_split, tot_split]
  rw [hz] at hd'
  rw [← owns_eq g M N fa f { f with dur := f.bytes.size } fb rfl] at ht
  rw [owns_eq g M N fa f { f with dur := f.bytes.size } fb rfl] at ht
  have ht2 : Turned (owns g M N (fa ++ f :: fb)) (owns g M N (fa ++ { f with dur := f.bytes.size } :: fb)) w w' := by
    rw [owns_eq g M N fa f { f with dur := f.bytes.size } fb rfl]
    exact ht
  exact ⟨rfl, _, ⟨_, _, _, hd', (by simp [Fil.abs]), rfl⟩, ht2⟩
theorem crash_o (own : List Nat) (g : Nat) (C n : Int) (l : List Abs) (A : Option Addr) (keep : List Int) (cap : Nat) (w0 w : World) (h : Do w0 own g C n l) (hb : Below w0.heap.size w0 w) (hf : Fine C l) (hk : KeepAt w own A keep) (hkl : keep.length ≤ 9223372036854775807) :
    Calls Try.prog 12 #[.pointer (some ⟨g, 0, none⟩), .slice A keep.length cap] w fun e w' => e = .returned (.int .i64 0) ∧ ∃ own', Do w' own' g C (-1) (crashAll keep l) ∧ Turned own own' w w' := by
  obtain ⟨M, N, fs, hd, rfl, rfl⟩ := h
  refine (crash_any g M N C n fs A keep cap w (hd.below hb) (by rw [names_abs rfl]; exact hf.names) (by have := hf.few; rw [List.length_map] at this; exact this) (fun f hfm => hf.small f.abs (List.mem_map.2 ⟨f, hfm, rfl⟩)) (fun f hfm => hf.durs f.abs (List.mem_map.2 ⟨f, hfm, rfl⟩)) (by have := hf.fits; have := hf.cap; omega) hk hkl).mono ?_
  rintro e w' ⟨rfl, N', fs', hd', he', ht⟩
  rw [he'] at hd'
  exact ⟨rfl, _, ⟨_, _, _, hd', he', rfl⟩, ht⟩
end Go.Proofs.Ytjjcicfilbfbjaa.Dsk
