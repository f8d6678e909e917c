/- The disk as the laws see it: its files as plain data; each call's contract over them. -/
import Derived.Test.YtjjcicfilbfbjaaRename04
namespace Go.Proofs.Ytjjcicfilbfbjaa.Dsk
open Go.RowKit Go.Maps Go.Sort Go.Proofs.Ytjjcicfilbfbjaa.Pin Go.Proofs.Ytjjcicfilbfbjaa.Gon Go.Proofs.Ytjjcicfilbfbjaa.Mps

/-- at block g a disk of these files, all of whose blocks lie from B on -/
def Dk (w : World) (B g : Nat) (C n : Int) (l : List Abs) : Prop := ∃ M N fs, DiskAt w g M N C (tot l : Nat) n fs ∧ fs.map Fil.abs = l ∧ ∀ r ∈ owns g M N fs, B ≤ r
/-- names and sizes that the contracts ask -/
structure Fine (C : Int) (l : List Abs) : Prop where
  names : (l.map (·.1)).Nodup
  small : ∀ a ∈ l, a.1.size ≤ 255
  durs : ∀ a ∈ l, a.2.2 ≤ a.2.1.size
  fits : (tot l : Int) ≤ C
  cap : C ≤ 1073741824
  few : l.length ≤ 1000000
theorem Dk.drewN {w : World} {B g : Nat} {C n : Int} {l : List Abs} (h : Dk w B g C n l) (k : Nat) : Dk (w.drewN k) B g C n l := by
  obtain ⟨M, N, fs, h1, h2, h3⟩ := h
  exact ⟨M, N, fs, h1.drewN k, h2, h3⟩
theorem Dk.below {w w' : World} {B g : Nat} {C n : Int} {l : List Abs} (h : Dk w B g C n l) (hb : Below w.heap.size w w') : Dk w' B g C n l := by
  obtain ⟨M, N, fs, h1, h2, h3⟩ := h
  exact ⟨M, N, fs, h1.below hb, h2, h3⟩
theorem Dk.alloc {w : World} {B g : Nat} {C n : Int} {l : List Abs} (h : Dk w B g C n l) (o : Obj) : Dk (w.alloc o) B g C n l := h.below ((Below.refl _ w).alloc (Nat.le_refl _) o)
theorem Dk.pos {w : World} {B g : Nat} {C n : Int} {l : List Abs} (h : Dk w B g C n l) : B ≤ g ∧ g < w.heap.size := by
  obtain ⟨M, N, fs, h1, h2, h3⟩ := h
  exact ⟨h3 g (by simp [owns]), h1.lt g (by simp [owns])⟩
theorem fin {w w' : World} {B g M N M' N' : Nat} {C n' : Int} {fs fs' : List Fil} {l' : List Abs} (ho : ∀ r ∈ owns g M N fs, B ≤ r) (hB : B ≤ w.heap.size) (hd : DiskAt w' g M' N' C (tot l' : Nat) n' fs') (he : fs'.map Fil.abs = l') (ht : Turned (owns g M N fs) (owns g M' N' fs') w w') :
    Dk w' B g C n' l' ∧ Below B w w' :=
  ⟨⟨M', N', fs', hd, he, fun r hr => by
    rcases ht.fresh r hr with h | h
    · exact ho r h
    · omega⟩, ht.below hB ho⟩
theorem names_abs {fs : List Fil} {l : List Abs} (h : fs.map Fil.abs = l) : fs.map (·.name) = l.map (·.1) := by
  rw [← h, List.map_map]
  rfl
theorem split_abs {fs : List Fil} {la lb : List Abs} {a : Abs} (h : fs.map Fil.abs = la ++ a :: lb) : ∃ fa f fb, fs = fa ++ f :: fb ∧ fa.map Fil.abs = la ∧ f.abs = a ∧ fb.map Fil.abs = lb := by
  obtain ⟨fa, fr, e1, e2, e3⟩ := List.map_eq_append_iff.1 h
  obtain ⟨f, fb, e4, e5, e6⟩ := List.map_eq_cons_iff.1 e3
  subst e4
  exact ⟨fa, f, fb, e1, e2, e5, e6⟩
theorem append_d (B g : Nat) (C n : Int) (la : List Abs) (a : Abs) (lb : List Abs) (s : ByteArray) (w : World) (h : Dk w B g C n (la ++ a :: lb)) (hB : B ≤ w.heap.size) (hf : Fine C (la ++ a :: lb)) (h1 : 0 < a.1.size) (hn : ¬ n = 0) (h64 : n < 9223372036854775808) (hs : (tot (la ++ a :: lb) : Int) + s.size ≤ C) :
    Calls Try.prog 9 #[.pointer (some ⟨g, 0, none⟩), .string a.1, .string s] w fun e w' => e = .returned (.int .i64 0) ∧ Dk w' B g C (nextn n) (la ++ (a.1, a.2.1 ++ s, a.2.2) :: lb) ∧ Below B w w' := by
  obtain ⟨M, N, fs, hd, he, ho⟩ := h
  obtain ⟨fa, f, fb, rfl, e1, e2, e3⟩ := split_abs he
  subst e1 e2 e3
  refine (append_old g M N C _ n fa f fb s w hd (by rw [names_abs he]; exact hf.names) h1 (hf.small f.abs (by simp)) hn h64 (by omega) hf.cap hs ?_).mono ?_
  · rw [tot_split]
    have : f.abs.2.1.size = f.bytes.size := rfl
    omega
  · rintro e w' ⟨rfl, v, hd', ht⟩
    have hz : ((tot (List.map Fil.abs fa ++ f.abs :: List.map Fil.abs fb) : Nat) : Int) + (s.size : Int) = ((tot (List.map Fil.abs fa ++ (f.abs.1, f.abs.2.1 ++ s, f.abs.2.2) :: List.map Fil.abs fb) : Nat) : Int) := by
      rw [tot_split, tot_split]
      have : (f.abs.2.1 ++ s).size = f.abs.2.1.size + s.size := size_append _ _
      show _ = ((_ + (f.abs.2.1 ++ s).size + _ : Nat) : Int)
      omega
    rw [hz] at hd'
    exact ⟨rfl, fin ho hB hd' (by simp [Fil.add, Fil.abs]) ht⟩
theorem append_n (B g : Nat) (C n : Int) (l : List Abs) (nm s : ByteArray) (w : World) (h : Dk w B g C n l) (hB : B ≤ w.heap.size) (hf : Fine C l) (hnew : ∀ a ∈ l, a.1 ≠ nm) (h1 : 0 < nm.size) (h2 : nm.size ≤ 255) (hn : ¬ n = 0) (h64 : n < 9223372036854775808) (hs : (tot l : Int) + s.size ≤ C) :
    Calls Try.prog 9 #[.pointer (some ⟨g, 0, none⟩), .string nm, .string s] w fun e w' => e = .returned (.int .i64 0) ∧ Dk w' B g C (nextn n) (l ++ [(nm, s, 0)]) ∧ Below B w w' := by
  obtain ⟨M, N, fs, hd, rfl, ho⟩ := h
  refine (append_new g M N C _ n fs nm s w hd (fun f hf2 => hnew f.abs (List.mem_map.2 ⟨f, hf2, rfl⟩)) h1 h2 hn h64 (by omega) hf.cap hs).mono ?_
  rintro e w' ⟨rfl, cb, v, hd', ht⟩
  have hz : ((tot (fs.map Fil.abs) : Nat) : Int) + (s.size : Int) = ((tot (fs.map Fil.abs ++ [(nm, s, 0)]) : Nat) : Int) := by
    rw [tot_append]
    simp [tot]
  rw [hz] at hd'
  exact ⟨rfl, fin ho hB hd' (by simp [Fil.abs]) ht⟩
theorem sync_d (B g : Nat) (C n : Int) (la : List Abs) (a : Abs) (lb : List Abs) (w : World) (h : Dk w B g C n (la ++ a :: lb)) (hB : B ≤ w.heap.size) (hf : Fine C (la ++ a :: lb)) (hn : ¬ n = 0) (h64 : n < 9223372036854775808) :
    Calls Try.prog 11 #[.pointer (some ⟨g, 0, none⟩), .string a.1] w fun e w' => e = .returned (.int .i64 0) ∧ Dk w' B g C (nextn n) (la ++ (a.1, a.2.1, a.2.1.size) :: lb) ∧ Below B w w' := by
  obtain ⟨M, N, fs, hd, he, ho⟩ := h
  obtain ⟨fa, f, fb, rfl, e1, e2, e3⟩ := split_abs he
  subst e1 e2 e3
  refine (sync_yes g M N C _ n fa f fb w hd (by rw [names_abs he]; exact hf.names) hn h64).mono ?_
  rintro e w' ⟨rfl, hd', ht⟩
  have hz : tot (List.map Fil.abs fa ++ f.abs :: List.map Fil.abs fb) = tot (List.map Fil.abs fa ++ (f.abs.1, f.abs.2.1, f.abs.2.1.size) :: List.map Fil.abs fb) := by
    rw [tot_split, tot_split]
  rw [hz] at hd'
  rw [← owns_eq g M N fa f { f with dur := f.bytes.size } fb rfl] at ht
  rw [owns_eq g M N fa f { f with dur := f.bytes.size } fb rfl] at ht
  have ht2 : Turned (owns g M N (fa ++ f :: fb)) (owns g M N (fa ++ { f with dur := f.bytes.size } :: fb)) w w' := by
    rw [owns_eq g M N fa f { f with dur := f.bytes.size } fb rfl]
    exact ht
  exact ⟨rfl, fin ho hB hd' (by simp [Fil.abs]) ht2⟩
theorem read_d (B g : Nat) (C n : Int) (l : List Abs) (a : Abs) (w : World) (h : Dk w B g C n l) (hf : Fine C l) (ha : a ∈ l) :
    Calls Try.prog 13 #[.pointer (some ⟨g, 0, none⟩), .string a.1] w fun e w' => e = .returned (.tuple #[.string a.2.1, .int .i64 0]) ∧ w = w' := by
  obtain ⟨M, N, fs, hd, he, ho⟩ := h
  rw [← he] at ha
  obtain ⟨f, hfm, rfl⟩ := List.mem_map.1 ha
  exact read_yes g M N C _ n fs f w hd hfm (by rw [names_abs he]; exact hf.names)
theorem read_g (B g : Nat) (C n : Int) (l : List Abs) (nm : ByteArray) (w : World) (h : Dk w B g C n l) (hnew : ∀ a ∈ l, a.1 ≠ nm) :
    Calls Try.prog 13 #[.pointer (some ⟨g, 0, none⟩), .string nm] w fun e w' => e = .returned (.tuple #[.string ⟨#[]⟩, .int .i64 6]) ∧ w = w' := by
  obtain ⟨M, N, fs, hd, rfl, ho⟩ := h
  exact read_no g M N C _ n fs nm w hd (fun f hf2 => hnew f.abs (List.mem_map.2 ⟨f, hf2, rfl⟩))
theorem size_d (B g : Nat) (C n : Int) (l : List Abs) (a : Abs) (w : World) (h : Dk w B g C n l) (hf : Fine C l) (ha : a ∈ l) :
    Calls Try.prog 14 #[.pointer (some ⟨g, 0, none⟩), .string a.1] w fun e w' => e = .returned (.tuple #[.int .i64 (a.2.1.size : Int), .int .i64 (a.2.2 : Int), .int .i64 0]) ∧ ∃ m, w' = w.drewN m := by
  obtain ⟨M, N, fs, hd, he, ho⟩ := h
  rw [← he] at ha
  obtain ⟨f, hfm, rfl⟩ := List.mem_map.1 ha
  exact size_yes g M N C _ n fs f w hd hfm (by rw [names_abs he]; exact hf.names)
theorem fail_d (B g : Nat) (C n n' : Int) (l : List Abs) (w : World) (h : Dk w B g C n l) (hB : B ≤ w.heap.size) :
    Calls Try.prog 17 #[.pointer (some ⟨g, 0, none⟩), .int .i64 n'] w fun e w' => e = .returned (.int .i64 0) ∧ Dk w' B g C n' l ∧ Below B w w' := by
  obtain ⟨M, N, fs, hd, he, ho⟩ := h
  refine (fail_yes g M N C _ n n' fs w hd).mono ?_
  rintro e w' ⟨rfl, N', hd', ht⟩
  exact ⟨rfl, fin ho hB hd' he ht⟩
theorem append_io_d (B g : Nat) (C : Int) (l : List Abs) (nm s : ByteArray) (w : World) (h : Dk w B g C 0 l) (h1 : 0 < nm.size) (h2 : nm.size ≤ 255) :
    Calls Try.prog 9 #[.pointer (some ⟨g, 0, none⟩), .string nm, .string s] w fun e w' => e = .returned (.int .i64 7) ∧ w = w' := by
  obtain ⟨M, N, fs, hd, he, ho⟩ := h
  exact append_io g M N C _ fs nm s w hd h1 h2
theorem append_space_d (B g : Nat) (C n : Int) (l : List Abs) (nm s : ByteArray) (w : World) (h : Dk w B g C n l) (hf : Fine C l) (h1 : 0 < nm.size) (h2 : nm.size ≤ 255) (hn : ¬ n = 0) (hs : C < (tot l : Int) + s.size) :
    Calls Try.prog 9 #[.pointer (some ⟨g, 0, none⟩), .string nm, .string s] w fun e w' => e = .returned (.int .i64 8) ∧ ∃ m, w' = w.drewN m := by
  obtain ⟨M, N, fs, hd, he, ho⟩ := h
  exact append_space g M N C _ n fs nm s w hd h1 h2 hn (by omega) hf.fits hf.cap hs
theorem append_arg_d (B g : Nat) (C n : Int) (l : List Abs) (s : ByteArray) (w : World) (h : Dk w B g C n l) :
    Calls Try.prog 9 #[.pointer (some ⟨g, 0, none⟩), .string ⟨#[]⟩, .string s] w fun e w' => e = .returned (.int .i64 1) ∧ w = w' := by
  obtain ⟨M, N, fs, hd, he, ho⟩ := h
  exact append_arg g M N C _ n fs s w hd
/-- a slice of numbers that the disk does not reach -/
theorem crash_d (B g : Nat) (C n : Int) (l : List Abs) (A : Option Addr) (keep : List Int) (cap : Nat) (w0 w : World) (h : Dk w0 B g C n l) (hb : Below w0.heap.size w0 w) (hB : B ≤ w.heap.size) (hf : Fine C l) (hk : ∀ own, (∀ r ∈ own, B ≤ r ∧ r < w0.heap.size) → KeepAt w own A keep) (hkl : keep.length ≤ 9223372036854775807) :
    Calls Try.prog 12 #[.pointer (some ⟨g, 0, none⟩), .slice A keep.length cap] w fun e w' => e = .returned (.int .i64 0) ∧ Dk w' B g C (-1) (crashAll keep l) ∧ Below B w w' := by
  obtain ⟨M, N, fs, hd, rfl, ho⟩ := h
  refine (crash_any g M N C n fs A keep cap w (hd.below hb) (by rw [names_abs rfl]; exact hf.names) (by have := hf.few; rw [List.length_map] at this; exact this) (fun f hfm => hf.small f.abs (List.mem_map.2 ⟨f, hfm, rfl⟩)) (fun f hfm => hf.durs f.abs (List.mem_map.2 ⟨f, hfm, rfl⟩)) (by have := hf.fits; have := hf.cap; omega) (hk _ (fun r hr => ⟨ho r hr, hd.lt r hr⟩)) hkl).mono ?_
  rintro e w' ⟨rfl, N', fs', hd', he', ht⟩
  rw [he'] at hd'
  exact ⟨rfl, fin ho hB hd' he' ht⟩
theorem new_d (C : Int) (w : World) (h0 : 0 ≤ C) (h1 : C ≤ 1073741824) :
    Calls Try.prog 8 #[.int .i64 C] w fun e w' => ∃ g, e = .returned (.tuple #[.pointer (some ⟨g, 0, none⟩), .int .i64 0]) ∧ Dk w' w.heap.size g C (-1) [] ∧ Below w.heap.size w w' := by
  refine (new_yes C w h0 h1).mono ?_
  rintro e w' ⟨g, M, N, rfl, hd, ho, hb⟩
  exact ⟨g, rfl, ⟨M, N, [], hd, rfl, ho⟩, hb⟩
theorem names_d (B g : Nat) (C n : Int) (l : List Abs) (w : World) (h : Dk w B g C n l) (hf : Fine C l) :
    Calls Try.prog 20 #[.pointer (some ⟨g, 0, none⟩)] w fun e w' => ∃ v, e = .returned v ∧ w'.ownsRow w.heap.size 9 1 v l.length ((namesL l).map encStr) ∧ Below w.heap.size w w' := by
  obtain ⟨M, N, fs, hd, rfl, ho⟩ := h
  refine (names_any g M N C _ n fs w hd (by have := hf.few; rw [List.length_map] at this; exact this) (fun f hfm => hf.small f.abs (List.mem_map.2 ⟨f, hfm, rfl⟩))).mono ?_
  rintro e w' ⟨v, rfl, hr, hb⟩
  rw [namesOf_abs] at hr
  rw [List.length_map]
  exact ⟨v, rfl, hr, hb⟩
theorem rename_d (B g : Nat) (C n : Int) (la : List Abs) (x : Abs) (lb lc : List Abs) (a : Abs) (ld : List Abs) (w : World) (h : Dk w B g C n (la ++ x :: lb)) (hB : B ≤ w.heap.size) (hf : Fine C (la ++ x :: lb)) (hs : la ++ lb = lc ++ a :: ld) (h1 : 0 < x.1.size) (hn : ¬ n = 0) (h64 : n < 9223372036854775808) :
    Calls Try.prog 18 #[.pointer (some ⟨g, 0, none⟩), .string a.1, .string x.1] w fun e w' => e = .returned (.int .i64 0) ∧ Dk w' B g C (nextn n) (lc ++ (ld ++ [(x.1, a.2.1, a.2.2)])) ∧ Below B w w' := by
  obtain ⟨M, N, fs, hd, he, ho⟩ := h
  obtain ⟨fa, fx, fb, rfl, e1, e2, e3⟩ := split_abs he
  subst e1 e2 e3
  rw [← List.map_append] at hs
  obtain ⟨fc, f, fd, hs', e1, e2, e3⟩ := split_abs hs
  subst e1 e2 e3
  refine (rename_yes g M N C _ n fa fx fb fc f fd w hd hs' (by rw [names_abs he]; exact hf.names) ?_ ?_ hn h64 h1 (hf.small fx.abs (by simp))).mono ?_
  · rw [tot_split]
    have : fx.abs.2.1.size = fx.bytes.size := rfl
    omega
  · have := hf.fits
    have := hf.cap
    omega
  · rintro e w' ⟨rfl, hd', ht⟩
    have hz : ((tot (List.map Fil.abs fa ++ fx.abs :: List.map Fil.abs fb) : Nat) : Int) - (fx.bytes.size : Int) = ((tot (List.map Fil.abs fc ++ (List.map Fil.abs fd ++ [(fx.abs.1, f.abs.2.1, f.abs.2.2)])) : Nat) : Int) := by
      have h4 : tot (List.map Fil.abs fa) + tot (List.map Fil.abs fb) = tot (List.map Fil.abs fc) + f.bytes.size + tot (List.map Fil.abs fd) := by
        rw [← tot_append, ← List.map_append, hs', List.map_append, List.map_cons, tot_split]
        rfl
      rw [tot_split, tot_append, tot_append]
      have h5 : tot [(fx.abs.1, f.abs.2.1, f.abs.2.2)] = f.bytes.size := by simp [tot, Fil.abs]
      have h6 : fx.abs.2.1.size = fx.bytes.size := rfl
      omega
    rw [hz] at hd'
    exact ⟨rfl, fin ho hB hd' (by simp [Fil.abs]) ht⟩
end Go.Proofs.Ytjjcicfilbfbjaa.Dsk
