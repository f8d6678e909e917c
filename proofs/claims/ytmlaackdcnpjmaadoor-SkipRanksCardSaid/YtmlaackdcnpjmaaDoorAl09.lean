/- Chapter 09: a list that grew behind a world; alive. -/
import Derived.Test.YtmlaackdcnpjmaaDoorSa09
import Derived.Test.YtmlaackdcnpjmaaDoorSkD09
namespace Go.Proofs.YtmlaackdcnpjmaaDoor.Skp
open Go Go.RowKit Go.Proofs.YtmlaackdcnpjmaaDoor.Pin Go.Proofs.YtmlaackdcnpjmaaDoor.Flt
/-- a list that is made of new memory -/
structure GrR (w : World) (s : Nat) (own : Nat → Prop) (L : List Sc) (wr : World) : Prop where
  sk : SkL wr own s L
  new : ∀ r, own r → w.heap.size ≤ r
  old : Below w.heap.size w wr
theorem GrR.below {w wr w' : World} {s : Nat} {own : Nat → Prop} {L : List Sc} (h : GrR w s own L wr) (hb : Below wr.heap.size wr w') : GrR w s own L w' :=
  ⟨h.sk.below hb, h.new, h.old.trans (hb.mono h.old.size)⟩
theorem old_frm {w wr w' : World} {own : Nat → Prop} (hn : ∀ r, own r → w.heap.size ≤ r) (hb : Below w.heap.size w wr) (hf : Frm own wr w') : Below w.heap.size w w' :=
  hb.trans ⟨hf.os, hf.tape, hf.output, hf.size, fun q hq => hf.block q (by have := hb.size; omega) (fun h => by have := hn q h; omega)⟩
theorem new_gr (seed : Nat) (h64 : seed < 2 ^ 64) (w : World) : Calls Tryd.prog 20 #[.int .u64 (seed : Int)] w fun e w' => ∃ s own, e = .returned (.pointer (some ⟨s, 0, none⟩)) ∧ GrR w s own [] w' := by
  refine (new_any seed h64 w).mono ?_
  rintro e w' ⟨⟨s, own, rfl, h1, h2⟩, hb⟩
  exact ⟨s, own, rfl, h1, h2, hb⟩
theorem put_gr {w wr : World} {s : Nat} {own : Nat → Prop} {L : List Sc} (m : Sc) (h : GrR w s own L wr) (h64 : m.2 < 2 ^ 64) (hT : Tab w) (hfew : L.length < 1099511627776) :
    Calls Tryd.prog 21 #[.pointer (some ⟨s, 0, none⟩), scV m] wr fun e w' => ∃ ok er L' own', e = .returned (.tuple #[.bool ok, .int .i64 er]) ∧ PutL L m ok er L' ∧ GrR w s own' L' w' := by
  refine (put_list m h.sk h64 (hT.below h.old) hfew).mono ?_
  rintro e w' ⟨ok, er, L', own', rfl, hp, hs, hf, hn⟩
  refine ⟨ok, er, L', own', rfl, hp, hs, fun r hr => ?_, old_frm h.new h.old hf⟩
  rcases hn r hr with k | k
  · exact h.new r k
  · have := h.old.size; omega
theorem del_gr {w wr : World} {s : Nat} {own : Nat → Prop} {L : List Sc} (m : Sc) (h : GrR w s own L wr) (h64 : m.2 < 2 ^ 64) :
    Calls Tryd.prog 19 #[.pointer (some ⟨s, 0, none⟩), scV m] wr fun e w' => ∃ ok L', e = .returned (.bool ok) ∧ DelL L m ok L' ∧ GrR w s own L' w' := by
  refine (del_list m h.sk h64).mono ?_
  rintro e w' ⟨ok, L', rfl, hp, hs, hf⟩
  exact ⟨ok, L', rfl, hp, hs, h.new, old_frm h.new h.old hf⟩
theorem put_yes {L L' : List Sc} {m : Sc} {ok : Bool} {er : Int} (h : PutL L m ok er L') (h1 : Num m.2) (h2 : m.1.size ≤ 65536) (h3 : nrm m ∉ L) : ok = true ∧ er = 0 ∧ L'.length = L.length + 1 ∧ ∀ x, x ∈ L' ↔ x ∈ L ∨ x = nrm m := by
  rcases h with ⟨k, _⟩ | ⟨_, _, k, _⟩ | ⟨_, _, _, k1, k2, k3, k4⟩
  · exact absurd ⟨h1, h2⟩ k
  · exact absurd k h3
  · exact ⟨k1, k2, k3, k4⟩
theorem put_twice {L L' : List Sc} {m : Sc} {ok : Bool} {er : Int} (h : PutL L m ok er L') (h1 : Num m.2) (h2 : m.1.size ≤ 65536) (h3 : nrm m ∈ L) : ok = false ∧ er = 0 ∧ L' = L := by
  rcases h with ⟨k, _⟩ | ⟨_, _, _, k⟩ | ⟨_, _, k, _⟩
  · exact absurd ⟨h1, h2⟩ k
  · exact k
  · exact absurd h3 k
theorem put_none {L L' : List Sc} {m : Sc} {ok : Bool} {er : Int} (h : PutL L m ok er L') (h1 : ¬ Num m.2) : ok = false ∧ er = 1 ∧ L' = L := by
  rcases h with ⟨_, k⟩ | ⟨k, _⟩ | ⟨k, _⟩
  · exact k
  · exact absurd k h1
  · exact absurd k h1
def b2 : Sc := (⟨#[98]⟩, 4611686018427387904)
def a2 : Sc := (⟨#[97]⟩, 4611686018427387904)
def xn : Sc := (⟨#[120]⟩, nanF)
theorem num_two : Num 4611686018427387904 := num_of (by decide +kernel)
theorem nan_not : ¬ Num nanF := fun h => by
  have h1 := fEq_num h h
  rw [show fEq nanF nanF = false by decide +kernel] at h1
  simp at h1
theorem nrm_two (t : ByteArray) : nrm (t, 4611686018427387904) = (t, 4611686018427387904) := by
  unfold nrm
  rw [if_neg (show ¬ rung 4611686018427387904 = 0 by decide +kernel)]
theorem a_lt_b : lessB a2 b2 = true := by decide +kernel
theorem a_ne_b : a2 ≠ b2 := fun h => by
  have h1 := a_lt_b
  rw [h, less_irr num_two] at h1
  cases h1
theorem srt_two : Srt [a2, b2] := by
  have hc : ∀ t, Cn (t, 4611686018427387904) := fun t => by
    have h := nrm_cn (m := (t, 4611686018427387904)) num_two (show 4611686018427387904 < 2 ^ 64 by decide)
    rwa [nrm_two] at h
  refine ⟨?_, fun c hm => ?_⟩
  · simp [a_lt_b]
  · simp at hm
    rcases hm with rfl | rfl
    · exact hc _
    · exact hc _
attribute [local go_sem high] run_store_F
set_option maxHeartbeats 2000000 in
set_option maxRecDepth 100000 in
theorem alive_any (w : World) (hT : Tab w) : Calls Tryd.prog 6 #[] w fun e w' => e = .returned (.bool true) ∧ Below w.heap.size w w' := by
  have HT := Lib.hid hT
  have HN := Lib.hid (new_gr 0 (by decide) w)
  clear hT
  go_enter Tryd.func6, Tryd.ntmps6
  go_wp2_with fail
  refine HN.out.mono ?_
  rintro e w1 ⟨s, own1, rfl, hg1⟩
  have HP1 := Lib.hid (put_gr b2 hg1 (by decide) HT.out (by decide))
  clear hg1
  go_wp2_with fail
  refine HP1.out.mono ?_
  rintro e w2 ⟨ok, er, L2, own2, rfl, hp, hg2⟩
  obtain ⟨rfl, rfl, hl2, hm2⟩ := put_yes hp num_two (by decide) (by simp)
  have e1 : nrm b2 = b2 := nrm_two _
  have e2 : nrm a2 = a2 := nrm_two _
  rw [e1] at hm2
  have hno : nrm a2 ∉ L2 := fun h => by
    rw [e2, hm2] at h
    rcases h with h | h
    · cases h
    · exact a_ne_b h
  have HNO := Lib.hid hno
  have HM2 := Lib.hid hm2
  have HP2 := Lib.hid (put_gr a2 hg2 (by decide) HT.out (by rw [hl2]; decide))
  clear hp hl2 hm2 hg2 hno
  go_wp2_with fail
  refine HP2.out.mono ?_
  rintro e w3 ⟨ok, er, L3, own3, rfl, hp, hg3⟩
  obtain ⟨rfl, rfl, hl3, hm3⟩ := put_yes hp num_two (by decide) HNO.out
  rw [e2] at hm3
  obtain rfl : L3 = [a2, b2] := srt_ext hg3.sk.srt srt_two (fun x => by
    rw [hm3, HM2.out]
    simp
    exact ⟨fun h => h.symm, fun h => h.symm⟩)
  have HP3 := Lib.hid (put_gr a2 hg3 (by decide) HT.out (by decide))
  clear hp hl3 hm3 hg3
  go_wp2_with fail
  refine HP3.out.mono ?_
  rintro e w4 ⟨ok, er, L4, own4, rfl, hp, hg4⟩
  obtain ⟨rfl, rfl, rfl⟩ := put_twice hp num_two (by decide) (by rw [e2]; simp)
  have HP4 := Lib.hid (put_gr xn hg4 (by decide) HT.out (by decide))
  clear hp hg4
  go_wp2_with fail
  refine (xnan_any _).mono ?_
  rintro e w5 ⟨rfl, rfl⟩
  go_wp2_with fail
  refine HP4.out.mono ?_
  rintro e w5 ⟨ok, er, L5, own5, rfl, hp, hg5⟩
  obtain ⟨rfl, rfl, rfl⟩ := put_none hp nan_not
  have HG5 := Lib.hid hg5
  have HR := Lib.hid (rank_list b2 hg5.sk (by decide))
  clear hp hg5
  go_wp2_with fail
  refine HR.out.mono ?_
  rintro e w6 ⟨⟨r, ok, rfl, hr⟩, hb6⟩
  have HG6 := Lib.hid (HG5.out.below hb6)
  obtain ⟨_, _, rfl, i, rfl, hi⟩ | ⟨h, _⟩ := hr
  rotate_left
  · exact absurd ⟨num_two, by rw [e1]; simp⟩ h
  obtain rfl : i = 1 := by
    rw [e1] at hi
    match i, hi with
    | 0, hi => exact absurd (Option.some.inj hi) a_ne_b
    | 1, _ => rfl
    | k + 2, hi => simp at hi
  have HA : Hid (Calls Tryd.prog 18 #[.pointer (some ⟨s, 0, none⟩), .int .i64 0] w6 fun e w' => e = .returned (.tuple #[.agg #[.string ⟨#[97]⟩, .float .f64 4611686018427387904], .bool true]) ∧ Below w6.heap.size w6 w') := Lib.hid (at_list (L := [a2, b2]) 0 (by decide) HG6.out.sk)
  clear hi hb6
  go_wp2_with fail
  refine HA.out.mono ?_
  rintro e w7 ⟨rfl, hb7⟩
  have HG7 := Lib.hid (HG6.out.below hb7)
  have HG8 : Hid (∀ o : Obj, GrR w s own5 [a2, b2] (w7.alloc o)) := Lib.hid (fun o => HG7.out.below ((Below.refl _ w7).alloc (Nat.le_refl _) o))
  clear hb7
  go_wp2_with fail
  refine (len_list (HG8.out _).sk).mono ?_
  rintro e w8 ⟨rfl, rfl⟩
  go_wp2_with fail
  refine (check_list (HG8.out _).sk).mono ?_
  rintro e w9 ⟨rfl, hb9⟩
  have HB9 := Lib.hid ((HG8.out _).below hb9).old
  clear hb9
  go_wp2_with fail
  go_ret
  exact ⟨rfl, HB9.out⟩
end Go.Proofs.YtmlaackdcnpjmaaDoor.Skp
