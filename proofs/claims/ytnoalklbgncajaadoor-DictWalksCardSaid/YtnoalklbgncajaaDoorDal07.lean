/- Chapter 07: the statements' small functions: alive, has, beyond, TextsSize, Beyond. -/
import Derived.Test.YtnoalklbgncajaaDoorDl07
namespace Go.Proofs.YtnoalklbgncajaaDoor.Dct
open Go Go.MapKept Go.RowKit Go.Proofs.YtnoalklbgncajaaDoor.Pin Go.Proofs.YtnoalklbgncajaaDoor.Mps Go.Proofs.YtnoalklbgncajaaDoor.Bok Go.Proofs.YtnoalklbgncajaaDoor.Uw Go.Proofs.YtnoalklbgncajaaDoor.Sip
attribute [local go_sem high] run_store_U cells_U eqGuard_U asIntOf_U
theorem txt_eq (x s : ByteArray) : (x.toList == s.toList) = true ↔ x = s := by
  rw [beq_iff_eq, ByteArray.toList_eq, ByteArray.toList_eq]
  constructor
  · intro h
    cases x
    cases s
    exact congrArg ByteArray.mk (Array.toList_inj.1 h)
  · rintro rfl
    rfl
theorem txt_ne {x s : ByteArray} (h : x ≠ s) : (x.toList == s.toList) = false := by
  cases e : (x.toList == s.toList) with
  | false => rfl
  | true => exact absurd ((txt_eq x s).1 e) h
/-- has' answer -/
def HasR (L : List ByteArray) (s : ByteArray) (e : Ending) : Prop := ∃ b : Bool, e = .returned (.bool b) ∧ (b = true ↔ s ∈ L)
set_option maxHeartbeats 2000000 in
set_option maxRecDepth 100000 in
theorem has_any {w : World} {A : Option Addr} {c : Nat} (L : List ByteArray) (s : ByteArray) (hl : L.length ≤ 281474976710656) (hc : ∀ j (h : j < L.length), ∃ g o, A = some ⟨g, o, none⟩ ∧ w.cell? ⟨g, o + j, none⟩ = some (.string L[j])) :
    Calls Tryd.prog 12 #[.slice A L.length c, .string s] w fun e w' => HasR L s e ∧ w = w' := by
  have HC := Lib.hid hc
  clear hc
  go_enter Tryd.func12, Tryd.ntmps12
  go_wp2_with fail
  go_loop [5] (fun i => ∃ k : Nat, k ≤ L.length ∧ i = .int .i64 (k : Int) ∧ Hid (s ∉ L.take k)) (fun i => L.length - (intOf i).toNat)
  case atStart => exact ⟨0, Nat.zero_le _, rfl, Lib.hid (by simp)⟩
  case round =>
    obtain ⟨k, hk, rfl, HN⟩ := hrel
    by_cases hlt : k < L.length
    · obtain ⟨g, o, rfl, hcell⟩ := HC.out k hlt
      have hltI : (k : Int) < (L.length : Int) := by omega
      obtain ⟨x, hx⟩ : ∃ x, x = L[k] := ⟨_, rfl⟩
      have HX := Lib.hid hx
      rw [← hx] at hcell
      clear hx
      by_cases he : x = s
      · have heq : (x.toList == s.toList) = true := (txt_eq x s).2 he
        have HM : Hid (s ∈ L) := Lib.hid (by rw [← he, HX.out]; exact List.getElem_mem hlt)
        clear he
        go_wp2_with fail
        go_ret
        exact ⟨⟨true, rfl, ⟨fun _ => HM.out, fun _ => rfl⟩⟩, rfl⟩
      · have heq : (x.toList == s.toList) = false := txt_ne he
        have HM : Hid (s ∉ L.take (k + 1)) := Lib.hid (by
          rw [List.take_succ_eq_append_getElem hlt, List.mem_append, not_or, ← HX.out]
          exact ⟨HN.out, by simpa using fun e => he e.symm⟩)
        clear he
        go_wp2_with fail
        exact ⟨⟨k + 1, by omega, by go_num, HM⟩, by simp [intOf]; omega⟩
    · have hke : k = L.length := by omega
      have hltI : ¬ ((k : Int) < (L.length : Int)) := by omega
      have HM : Hid (s ∉ L) := Lib.hid (by have := HN.out; rw [hke, List.take_length] at this; exact this)
      clear hke hlt
      go_wp2_with fail
      go_ret
      exact ⟨⟨false, rfl, ⟨fun e => (by cases e), fun e => absurd e HM.out⟩⟩, rfl⟩
/-- one letter -/
def kk (a : UInt8) : ByteArray := ⟨#[a]⟩
theorem kk_ne {a b : UInt8} (h : a ≠ b) : kk a ≠ kk b := fun e => by
  have h1 : #[a] = #[b] := congrArg ByteArray.data e
  exact h (by simpa using h1)
set_option maxHeartbeats 4000000 in
set_option maxRecDepth 100000 in
theorem alive_any (w : World) : Calls Tryd.prog 4 #[] w fun e w' => e = .returned (.bool true) ∧ Below w.heap.size w w' := by
  go_enter Tryd.func4, Tryd.ntmps4
  go_wp2_with fail
  rw [show (Value.int .u64 0 : Value) = U 0#64 from rfl]
  refine (new_dk 0#64 w).mono ?_
  rintro e w0 ⟨d, s0, rfl, hD, _, he, hn, hs, hb⟩
  have HD0 := Lib.hid hD
  have HP0 : Hid (s0.ents.Perm []) := Lib.hid (by rw [he])
  have HE0 := Lib.hid he
  have HS0 := Lib.hid hs
  have HB0 := Lib.hid hb
  clear hD he hn hs hb
  go_wp2_with fail
  rw [show (Value.int .u64 0 : Value) = U 0#64 from rfl]
  refine (scan_any HD0.out.at' HD0.out.inv 0#64 (by have := HD0.out.cnt HP0.out; simp at this; omega)).mono ?_
  rintro e w1 ⟨v', kv, L, rfl, hsc, hrow, hb⟩
  obtain ⟨hv, rfl⟩ := scan_zero hsc HE0.out HS0.out
  rw [hv]
  obtain ⟨A, c, rfl, _⟩ := row_slice hrow
  have hDn : Dk w.heap.size w1 d s0 := HD0.out.below hb
  have HB1 : Hid (Below w.heap.size w w1) := Lib.hid (HB0.out.trans (hb.mono HB0.out.size))
  clear HD0
  have HD0 := Lib.hid hDn
  clear hDn hv hsc hrow hb HB0
  have HB0 := HB1
  clear HB1
  go_wp2_with fail
  refine (set_dk HD0.out (kk 97) 1 (by decide) (by have := HD0.out.cnt HP0.out; simp at this; omega)).mono ?_
  rintro e w2 ⟨s1, hD, _, hr, hsh, hb, _⟩
  obtain ⟨rfl, hp⟩ := hr.new HP0.out (fun y hy => by cases hy)
  have HP1 : Hid (s1.ents.Perm [(kk 97, 1)]) := Lib.hid hp
  have HS1 : Hid (s1.shape = (4, none, 0)) := Lib.hid (by rw [hsh _ rfl, HS0.out, HD0.out.cnt HP0.out]; simp [setS, stepS1])
  have HD1 := Lib.hid hD
  have HB1 : Hid (Below w.heap.size w w2) := Lib.hid (HB0.out.trans hb)
  clear hr hsh hp hD hb HD0 HP0 HS0 HB0 HE0
  go_wp2_with fail
  refine (set_dk HD1.out (kk 97) 2 (by decide) (by have := HD1.out.cnt HP1.out; simp at this; omega)).mono ?_
  rintro e w3 ⟨s2, hD, _, hr, hsh, hb, _⟩
  obtain ⟨rfl, hp⟩ := hr.old HP1.out HD1.out.inv.nd
  have HP2 : Hid (s2.ents.Perm [(kk 97, 2)]) := Lib.hid hp
  have HS2 : Hid (s2.shape = (4, none, 0)) := Lib.hid (by rw [hsh _ rfl, HS1.out, HD1.out.cnt HP1.out]; simp [setS, stepS1])
  have HD2 := Lib.hid hD
  have HB2 : Hid (Below w.heap.size w w3) := Lib.hid (HB1.out.trans hb)
  clear hr hsh hp hD hb HD1 HP1 HS1 HB1
  go_wp2_with fail
  refine (set_dk HD2.out (kk 98) 1 (by decide) (by have := HD2.out.cnt HP2.out; simp at this; omega)).mono ?_
  rintro e w4 ⟨s3, hD, _, hr, hsh, hb, _⟩
  obtain ⟨rfl, hp⟩ := hr.new HP2.out (by intro y hy; simp only [List.mem_cons, List.not_mem_nil, or_false] at hy; rcases hy with rfl <;> exact kk_ne (by decide))
  have HP3 : Hid (s3.ents.Perm [(kk 98, 1), (kk 97, 2)]) := Lib.hid hp
  have HS3 : Hid (s3.shape = (4, none, 0)) := Lib.hid (by rw [hsh _ rfl, HS2.out, HD2.out.cnt HP2.out]; simp [setS, stepS1])
  have HD3 := Lib.hid hD
  have HB3 : Hid (Below w.heap.size w w4) := Lib.hid (HB2.out.trans hb)
  clear hr hsh hp hD hb HD2 HP2 HS2 HB2
  go_wp2_with fail
  refine (set_dk HD3.out (kk 99) 1 (by decide) (by have := HD3.out.cnt HP3.out; simp at this; omega)).mono ?_
  rintro e w5 ⟨s4, hD, _, hr, hsh, hb, _⟩
  obtain ⟨rfl, hp⟩ := hr.new HP3.out (by intro y hy; simp only [List.mem_cons, List.not_mem_nil, or_false] at hy; rcases hy with rfl | rfl <;> exact kk_ne (by decide))
  have HP4 : Hid (s4.ents.Perm [(kk 99, 1), (kk 98, 1), (kk 97, 2)]) := Lib.hid hp
  have HS4 : Hid (s4.shape = (4, none, 0)) := Lib.hid (by rw [hsh _ rfl, HS3.out, HD3.out.cnt HP3.out]; simp [setS, stepS1])
  have HD4 := Lib.hid hD
  have HB4 : Hid (Below w.heap.size w w5) := Lib.hid (HB3.out.trans hb)
  clear hr hsh hp hD hb HD3 HP3 HS3 HB3
  go_wp2_with fail
  refine (set_dk HD4.out (kk 100) 1 (by decide) (by have := HD4.out.cnt HP4.out; simp at this; omega)).mono ?_
  rintro e w6 ⟨s5, hD, _, hr, hsh, hb, _⟩
  obtain ⟨rfl, hp⟩ := hr.new HP4.out (by intro y hy; simp only [List.mem_cons, List.not_mem_nil, or_false] at hy; rcases hy with rfl | rfl | rfl <;> exact kk_ne (by decide))
  have HP5 : Hid (s5.ents.Perm [(kk 100, 1), (kk 99, 1), (kk 98, 1), (kk 97, 2)]) := Lib.hid hp
  have HS5 : Hid (s5.shape = (4, none, 0)) := Lib.hid (by rw [hsh _ rfl, HS4.out, HD4.out.cnt HP4.out]; simp [setS, stepS1])
  have HD5 := Lib.hid hD
  have HB5 : Hid (Below w.heap.size w w6) := Lib.hid (HB4.out.trans hb)
  clear hr hsh hp hD hb HD4 HP4 HS4 HB4
  go_wp2_with fail
  refine (set_dk HD5.out (kk 101) 1 (by decide) (by have := HD5.out.cnt HP5.out; simp at this; omega)).mono ?_
  rintro e w7 ⟨s6, hD, _, hr, hsh, hb, _⟩
  obtain ⟨rfl, hp⟩ := hr.new HP5.out (by intro y hy; simp only [List.mem_cons, List.not_mem_nil, or_false] at hy; rcases hy with rfl | rfl | rfl | rfl <;> exact kk_ne (by decide))
  have HP6 : Hid (s6.ents.Perm [(kk 101, 1), (kk 100, 1), (kk 99, 1), (kk 98, 1), (kk 97, 2)]) := Lib.hid hp
  have HS6 : Hid (s6.shape = (4, some 8, 0)) := Lib.hid (by rw [hsh _ rfl, HS5.out, HD5.out.cnt HP5.out]; simp [setS, stepS1])
  have HD6 := Lib.hid hD
  have HB6 : Hid (Below w.heap.size w w7) := Lib.hid (HB5.out.trans hb)
  clear hr hsh hp hD hb HD5 HP5 HS5 HB5
  go_wp2_with fail
  refine (slots_any HD6.out.at').mono ?_
  rintro e w8 ⟨rfl, hb⟩
  have e4 : s6.p0.length = 4 := congrArg Prod.fst HS6.out
  have e8 : n1 s6.t1 = 8 := by
    have h1 : s6.t1.map (fun x => x.2.length) = some 8 := congrArg (fun x : Shp => x.2.1) HS6.out
    cases e : s6.t1 with
    | none => rw [e] at h1; cases h1
    | some x => rw [e] at h1; injection h1
  rw [e4, e8]
  have hDn : Dk w.heap.size w8 d s6 := HD6.out.below hb
  have HB7 : Hid (Below w.heap.size w w8) := Lib.hid (HB6.out.trans (hb.mono HD6.out.bnd))
  clear HD6 e4 e8 HB6
  have HD6 := Lib.hid hDn
  clear hDn hb
  go_wp2_with fail
  refine (step_dk HD6.out 9 (by omega)).mono ?_
  rintro e w9 ⟨rfl, s7, hD, _, hp, _, hsh, hb, _⟩
  have HD7 := Lib.hid hD
  have HP7 := Lib.hid (hp.trans HP6.out)
  have HS7 : Hid (s7.shape = (8, none, 0)) := Lib.hid (by rw [hsh, HS6.out]; rfl)
  have HB8 : Hid (Below w.heap.size w w9) := Lib.hid (HB7.out.trans hb)
  clear hD hp hsh hb HD6 HP6 HS6 HB7
  go_wp2_with fail
  refine (slots_any HD7.out.at').mono ?_
  rintro e w10 ⟨rfl, hb⟩
  have e4 : s7.p0.length = 8 := congrArg Prod.fst HS7.out
  have e8 : n1 s7.t1 = 0 := by
    have h1 : s7.t1.map (fun x => x.2.length) = none := congrArg (fun x : Shp => x.2.1) HS7.out
    cases e : s7.t1 with
    | none => rfl
    | some x => rw [e] at h1; cases h1
  rw [e4, e8]
  have hDn : Dk w.heap.size w10 d s7 := HD7.out.below hb
  have HB9 : Hid (Below w.heap.size w w10) := Lib.hid (HB8.out.trans (hb.mono HD7.out.bnd))
  clear HD7 e4 e8 HB8
  have HD7 := Lib.hid hDn
  clear hDn hb
  go_wp2_with fail
  refine (get_any HD7.out.at' HD7.out.inv (kk 97) (by decide)).mono ?_
  rintro e w11 ⟨hg, hb⟩
  obtain rfl := hg.yes (v := 2) (HP7.out.mem_iff.2 (by simp)) HD7.out.inv.nd
  have hDn : Dk w.heap.size w11 d s7 := HD7.out.below hb
  have HB10 : Hid (Below w.heap.size w w11) := Lib.hid (HB9.out.trans (hb.mono HD7.out.bnd))
  clear HD7 HB9
  have HD7 := Lib.hid hDn
  clear hDn hb hg
  go_wp2_with fail
  refine (len_any HD7.out.at').mono ?_
  rintro e w12 ⟨rfl, rfl⟩
  rw [show (s7.n : Int) = 5 by rw [HD7.out.cnt HP7.out]; rfl]
  go_wp2_with fail
  refine (delete_dk HD7.out (kk 101) (by decide) (by have := HD7.out.cnt HP7.out; simp at this; omega)).mono ?_
  rintro e w13 ⟨s8, hD, _, hr, hb, _⟩
  obtain ⟨rfl, hp⟩ := hr.yes HP7.out HD7.out.inv.nd
  have HD8 := Lib.hid hD
  have HP8 := Lib.hid hp
  have HB11 : Hid (Below w.heap.size w w13) := Lib.hid (HB10.out.trans hb)
  clear hD hp hb hr HD7 HP7 HB10
  go_wp2_with fail
  refine (delete_dk HD8.out (kk 101) (by decide) (by have := HD8.out.cnt HP8.out; simp at this; omega)).mono ?_
  rintro e w14 ⟨s9, hD, _, hr, hb, _⟩
  obtain ⟨rfl, hp⟩ := hr.no HP8.out (by intro y hy; simp only [List.mem_cons, List.not_mem_nil, or_false] at hy; rcases hy with rfl | rfl | rfl | rfl <;> exact kk_ne (by decide))
  have HB12 : Hid (Below w.heap.size w w14) := Lib.hid (HB11.out.trans hb)
  clear hD hp hb hr
  go_wp2_with fail
  go_ret
  exact ⟨rfl, HB12.out⟩
end Go.Proofs.YtnoalklbgncajaaDoor.Dct
