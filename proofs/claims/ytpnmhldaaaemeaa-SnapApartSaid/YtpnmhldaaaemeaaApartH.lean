import Derived.Test.YtpnmhldaaaemeaaMa21
import Derived.Test.YtpnmhldaaaemeaaMa17
import Derived.Test.YtpnmhldaaaemeaaRows
import Derived.Test.YtpnmhldaaaemeaaMa22
import Derived.SizedLaws
import Derived.OpenShut
import Derived.Lib.SmallJoins
/- Chapter 24's laws: Encode of any items, and the sizes at a law's head. -/
namespace Go.Proofs.Ytpnmhldaaaemeaa.Snp
open Go.RowKit Go.Proofs.Ytpnmhldaaaemeaa.Pin
/-- items of a law -/
structure Its (w : World) (v : Value) (l : List It) : Prop where
  at_ : ItemsAt w w.heap.size v l
  len : l.length ≤ 140737488351232
  vab : ∀ it ∈ l, VaB it.val
  ids : ∀ it ∈ l, IdsB it.val
  itt : ∀ it ∈ l, ItT it
theorem Its.below {w w' : World} {v : Value} {l : List It} (h : Its w v l) (hb : Below w.heap.size w w') : Its w' v l := ⟨(h.at_.below hb).more hb.size, h.len, h.vab, h.ids, h.itt⟩
noncomputable def encS (l : List It) : List UInt8 := if pb (CheckP l) = true then encB l else []
theorem encS_yes {l : List It} (h : CheckP l) : encS l = encB l := by unfold encS; rw [pb_true h]; rfl
theorem encS_no {l : List It} (h : ¬ CheckP l) : encS l = [] := by unfold encS; rw [pb_false h]; rfl
theorem Its.enc {w : World} {v : Value} {l : List It} (h : Its w v l) (hs : szBy szIt l ≤ 1048576) :
    Calls Try.prog 13 #[v] w fun e w' => e = .returned (.tuple #[.string ⟨(encS l).toArray⟩, .int .i64 (eno (CheckP l))]) ∧ Below w.heap.size w w' := by
  by_cases hc : CheckP l
  · rw [encS_yes hc, eno_yes hc]
    exact enc_yes l v w h.at_ h.len h.vab h.ids (by have := enc_len l; omega) hc
  · rw [encS_no hc, eno_no hc]
    exact enc_no l v w h.at_ h.len h.vab hc
theorem Its.check {w : World} {v : Value} {l : List It} (h : Its w v l) : Calls Try.prog 10 #[v] w fun e w' => e = .returned (.int .i64 (eno (CheckP l))) ∧ Below w.heap.size w w' := check_any l v w h.at_ h.len h.vab
theorem Its.size {w : World} {v : Value} {l : List It} (h : Its w v l) : Sized 9 #[v] w 4503599627370496 (szBy szIt l) := sz_items l v w h.at_ h.len h.vab h.itt
theorem Its.ok {w : World} {v : Value} {l : List It} (h : Its w v l) (hc : CheckP l) : ∀ it ∈ l, ItOk it := ok_all hc h.vab h.ids
/-- Decode where nothing is read -/
theorem decode_no {s : List UInt8} (hd : decP s = none) (w : World) (hs : s.length ≤ 549755813888) : Calls Try.prog 14 #[.string ⟨s.toArray⟩] w fun e w' => e = .returned (.tuple #[.slice none 0 0, .int .i64 4]) ∧ Below w.heap.size w w' :=
  (decode_any s w hs).mono fun e w' ⟨h1, h2⟩ => by rw [hd] at h2; exact ⟨h2, h1⟩
theorem decode_yes {s : List UInt8} {l : List It} (hd : decP s = some l) (w : World) (hs : s.length ≤ 549755813888) : Calls Try.prog 14 #[.string ⟨s.toArray⟩] w fun e w' => (∃ v, e = .returned (.tuple #[v, .int .i64 0]) ∧ ItemsAt w' w'.heap.size v l) ∧ Below w.heap.size w w' :=
  (decode_any s w hs).mono fun e w' ⟨h1, h2⟩ => by
    rw [hd] at h2
    obtain ⟨v, rfl, h⟩ := h2
    exact ⟨⟨v, rfl, items_at h⟩, h1⟩
end Go.Proofs.Ytpnmhldaaaemeaa.Snp
/- The walk of SnapApart: it answers true. -/
namespace Go.Proofs.Ytpnmhldaaaemeaa.Snp
open Go.RowKit Go.Proofs.Ytpnmhldaaaemeaa.Pin
set_option maxHeartbeats 4000000 in
set_option maxRecDepth 100000 in
theorem apart_walk (l m : List It) (v u : Value) (w : World) (hl : Its w v l) (hm : Its w u m) :
    Calls Try.prog 7 #[v, u] w fun e w' => e = .returned (.bool true) ∧ Below w.heap.size w w' := by
  have HL := Lib.hid hl
  have HM := Lib.hid hm
  clear hl hm
  go_enter Try.func7, Try.ntmps7
  go_wp2_with fail
  refine (alive_any _).mono ?_
  rintro e w1 ⟨rfl, hb1⟩
  have HB1 := Lib.hid hb1
  clear hb1
  go_wp2_with fail
  refine ((HL.out.below HB1.out).size).mono ?_
  rintro e w2 ⟨n1, rfl, hn1, hs1, hb2⟩
  have HB2 := Lib.hid (HB1.out.trans (hb2.mono HB1.out.size))
  have HN1 := Lib.hid hn1
  have HS1 := Lib.hid hs1
  clear hb2 hn1 hs1
  go_wp2_with fail
  refine ((HM.out.below HB2.out).size).mono ?_
  rintro e w3 ⟨n2, rfl, hn2, hs2, hb3⟩
  have HB3 := Lib.hid (HB2.out.trans (hb3.mono HB2.out.size))
  have HN2 := Lib.hid hn2
  have HS2 := Lib.hid hs2
  clear hb3 hn2 hs2
  go_wp2_with fail
  have hcl : ∀ j (h : j < [(n1 : Int), (n2 : Int)].length), (w3.alloc (.cells #[.int .i64 (n1 : Int), .int .i64 (n2 : Int)] 3)).cell? ⟨w3.heap.size, j, none⟩ = some (.int .i64 [(n1 : Int), (n2 : Int)][j]) := by
    intro j hj
    have : j = 0 ∨ j = 1 := by simp at hj; omega
    rcases this with rfl | rfl <;> simp
  have HB4 : Hid (Below w.heap.size w (w3.alloc (.cells #[.int .i64 (n1 : Int), .int .i64 (n2 : Int)] 3))) := Lib.hid (HB3.out.alloc HB3.out.size _)
  refine (Bey.beyond_any [(n1 : Int), (n2 : Int)] 2 w3.heap.size _ (by simp) (by
    intro x hx
    have h1 := HN1.out
    have h2 := HN2.out
    rcases List.mem_cons.1 hx with rfl | hx
    · omega
    · obtain rfl := List.mem_singleton.1 hx; omega) hcl).mono ?_
  rintro e w4 ⟨rfl, rfl⟩
  cases hq : Bey.beyond 0 [(n1 : Int), (n2 : Int)] with
  | true =>
    clear hcl hq
    go_wp2_with fail
    refine (alive_any _).mono ?_
    rintro e w3 ⟨rfl, hb3⟩
    have HB3 := Lib.hid (HB4.out.trans (hb3.mono HB4.out.size))
    clear hb3
    go_wp2_with fail
    go_ret
    exact ⟨rfl, HB3.out⟩
  | false =>
    have hle : n1 ≤ 1048576 ∧ n2 ≤ 1048576 := by
      have h := hq
      simp only [Bey.beyond, Int.zero_add] at h
      split at h
      · cases h
      · split at h
        · cases h
        · omega
    have HZ1 : Hid (szBy szIt l ≤ 1048576) := Lib.hid (by have h1 := HS1.out hle.1; omega)
    have HZ2 : Hid (szBy szIt m ≤ 1048576) := Lib.hid (by have h1 := HS2.out hle.2; omega)
    obtain ⟨W2, hW2⟩ : ∃ W2, W2 = w3.alloc (.cells #[.int .i64 (n1 : Int), .int .i64 (n2 : Int)] 3) := ⟨_, rfl⟩
    rw [← hW2] at HB4 ⊢
    clear hcl hq hW2 HB1 HB2 HB3 hle HN1 HN2 HS1 HS2
    go_wp2_with fail
    refine ((HL.out.below HB4.out).enc HZ1.out).mono ?_
    rintro e w5 ⟨rfl, hb5⟩
    have HB5 := Lib.hid (HB4.out.trans (hb5.mono HB4.out.size))
    clear hb5
    go_wp2_with fail
    refine ((HM.out.below HB5.out).enc HZ2.out).mono ?_
    rintro e w6 ⟨rfl, hb6⟩
    have HB6 := Lib.hid (HB5.out.trans (hb6.mono HB5.out.size))
    clear hb6
    by_cases hcl : CheckP l
    · by_cases hcm : CheckP m
      · rw [encS_yes hcl, eno_yes hcl, encS_yes hcm, eno_yes hcm]
        obtain ⟨a, ha⟩ : ∃ a, a = encB l := ⟨_, rfl⟩
        obtain ⟨b, hb⟩ : ∃ b, b = encB m := ⟨_, rfl⟩
        obtain ⟨n, hn⟩ : ∃ n, n = min a.length b.length := ⟨_, rfl⟩
        obtain ⟨x, hx⟩ : ∃ x, x = a.take n := ⟨_, rfl⟩
        obtain ⟨y, hy⟩ : ∃ y, y = b.take n := ⟨_, rfl⟩
        rw [← ha, ← hb]
        have q1 := size_of a
        have q2 := size_of b
        have q3 : min (a.length : Int) (b.length : Int) = (n : Int) := by omega
        have q4 : n ≤ a.length := by omega
        have q5 : n ≤ b.length := by omega
        have q6 : (⟨a.toArray⟩ : ByteArray).extract 0 n = ⟨x.toArray⟩ := by rw [ext_take, hx]
        have q7 : (⟨b.toArray⟩ : ByteArray).extract 0 n = ⟨y.toArray⟩ := by rw [ext_take, hy]
        have HXY : Hid (x = y ↔ l = m) := Lib.hid (by
          rw [hx, hy, ha, hb]
          exact take_apart hcl hcm (HL.out.ok hcl) (HM.out.ok hcm) n (by rw [hn, ha, hb]))
        have HSA : Hid (∀ W, Grow.Grows w6 W → Calls Try.prog 15 #[v, u] W fun e w' => e = .returned (.bool (pb (l = m))) ∧ Below W.heap.size W w') := Lib.hid (fun W hW =>
          same_items l m v u W (((HL.out.below HB6.out).below hW).at_) (((HM.out.below HB6.out).below hW).at_) HL.out.len (sa_all hcl HL.out.vab) (sa_all hcm HM.out.vab))
        clear ha hb hn hx hy hcl hcm
        go_wp2_with fail
        refine Grow.wp_region_grow [fun z _ => z = .string ⟨a.toArray⟩, fun z _ => z = .int .i64 (n : Int), fun z _ => z = .string ⟨x.toArray⟩, fun z _ => z = .string ⟨b.toArray⟩, fun z _ => z = .int .i64 (n : Int), fun z _ => z = .string ⟨y.toArray⟩, fun z _ => z = .bool (pb (l = m)), fun z _ => z = v, fun z _ => z = u, fun z _ => z = .bool (pb (l = m)), fun z _ => z = .bool true, fun z _ => z = .bool true] [[], [], [0, 1], [], [], [3, 4], [2, 5], [], [], [7, 8], [6, 9], [10]] (by kernel_rfl) (by kernel_rfl) ?_ ?_ ?_
        · intro V hV
          have hst1 : ∀ x : Value, Grow.Stable (fun v _ => v = x) := fun x v w w' h _ => h
          simp only [List.mem_cons, List.not_mem_nil, or_false] at hV
          rcases hV with rfl | rfl | rfl | rfl | rfl | rfl | rfl | rfl | rfl | rfl | rfl | rfl
          all_goals exact hst1 _
        · skip
          refine .cons (fun z w' hR hF => Grow.gop_n rfl ?_) ?_
          · skip
            go_simp
            exact Grow.Grows.refl _
          refine .cons (fun z w' hR hF => Grow.gop_n rfl ?_) ?_
          · skip
            go_simp
            exact Grow.Grows.refl _
          refine .cons (fun z w' hR hF => Grow.gop_n rfl ?_) ?_
          · skip
            have f0 : z 0 = .string ⟨a.toArray⟩ := hF.1
            have f1 : z 1 = .int .i64 (n : Int) := hF.2.1
            go_simp
            exact Grow.Grows.refl _
          refine .cons (fun z w' hR hF => Grow.gop_n rfl ?_) ?_
          · skip
            go_simp
            exact Grow.Grows.refl _
          refine .cons (fun z w' hR hF => Grow.gop_n rfl ?_) ?_
          · skip
            go_simp
            exact Grow.Grows.refl _
          refine .cons (fun z w' hR hF => Grow.gop_n rfl ?_) ?_
          · skip
            have f3 : z 3 = .string ⟨b.toArray⟩ := hF.1
            have f4 : z 4 = .int .i64 (n : Int) := hF.2.1
            go_simp
            exact Grow.Grows.refl _
          refine .cons (fun z w' hR hF => Grow.gop_n rfl ?_) ?_
          · skip
            have f2 : z 2 = .string ⟨x.toArray⟩ := hF.1
            have f5 : z 5 = .string ⟨y.toArray⟩ := hF.2.1
            by_cases hlm : l = m
            · have e := HXY.out.2 hlm
              subst e
              rw [pb_true hlm]
              clear hlm
              go_simp
              exact Grow.Grows.refl _
            · have e : ¬ x = y := fun h => hlm (HXY.out.1 h)
              rw [pb_false hlm]
              clear hlm
              go_simp
              exact Grow.Grows.refl _
          refine .cons (fun z w' hR hF => Grow.gop_n rfl ?_) ?_
          · skip
            go_simp
            exact Grow.Grows.refl _
          refine .cons (fun z w' hR hF => Grow.gop_n rfl ?_) ?_
          · skip
            go_simp
            exact Grow.Grows.refl _
          refine .cons (fun z w' hR hF => Grow.gop_n rfl ?_) ?_
          · skip
            have f7 : z 7 = v := hF.1
            have f8 : z 8 = u := hF.2.1
            have HSM := Lib.hid (HSA.out w' hR)
            go_simp
            exact HSM.out.mono fun e w'' ⟨h1, h2⟩ => ⟨h1, h2⟩
          refine .cons (fun z w' hR hF => Grow.gop_n rfl ?_) ?_
          · skip
            have f6 : z 6 = .bool (pb (l = m)) := hF.1
            have f9 : z 9 = .bool (pb (l = m)) := hF.2.1
            go_simp
            exact Grow.Grows.refl _
          refine .cons (fun z w' hR hF => Grow.gop_n rfl ?_) .nil
          · skip
            have f10 : z 10 = .bool true := hF.1
            go_simp
            exact Grow.Grows.refl _
        · intro w' hR
          have HB7 : Hid (Below w.heap.size w w') := Lib.hid (HB6.out.trans (hR.mono HB6.out.size))
          clear hR
          refine .cons (fun z0 f0 => ?_)
          refine .cons (fun z1 f1 => ?_)
          refine .cons (fun z2 f2 => ?_)
          refine .cons (fun z3 f3 => ?_)
          refine .cons (fun z4 f4 => ?_)
          refine .cons (fun z5 f5 => ?_)
          refine .cons (fun z6 f6 => ?_)
          refine .cons (fun z7 f7 => ?_)
          refine .cons (fun z8 f8 => ?_)
          refine .cons (fun z9 f9 => ?_)
          refine .cons (fun z10 f10 => ?_)
          refine .cons (fun z11 f11 => ?_)
          refine .nil ?_
          subst f11
          go_simp
          go_wp2_with fail
          go_ret
          exact ⟨rfl, HB7.out⟩
      · rw [eno_yes hcl, eno_no hcm]
        clear hcl hcm
        go_wp2_with fail
        go_ret
        exact ⟨rfl, HB6.out⟩
    · rw [eno_no hcl]
      clear hcl
      go_wp2_with fail
      go_ret
      exact ⟨rfl, HB6.out⟩
end Go.Proofs.Ytpnmhldaaaemeaa.Snp
/- The statement SnapApart: for every input the law's function returns true, and its arguments read as before. The row's step round the walk. -/
namespace Go.Proofs.Ytpnmhldaaaemeaa.SnapApart
open Go.Proofs.Ytpnmhldaaaemeaa.Snp Go.Proofs.Ytpnmhldaaaemeaa.Rdg Go.ChangeShapes Go.WideShapes Go.ChangeAt Go.RowKit Go.Joins Go.Proofs.Ytpnmhldaaaemeaa.Law
open Go.ChangeMaps (open_string)
set_option linter.unusedVariables false

theorem own : ownKnob Try.prog.godebug = none := by kernel_rfl

set_option maxRecDepth 100000 in
theorem lifted (os : Os) (started : os.Started) (H : Type) (enc : TypeId × Value → H) :
    ReturnsInHanded {} Try.checked os 7 .any (Rows.snapApartSpec.pre6 enc Try.prog Try.f7 Rows.snapApartRow.domain false) (Rows.snapApartSpec.post enc Try.prog Try.f7 false true false false) := by
  refine returnsInHanded_of_change_sized (C := Try.checked) own started (by kernel_rfl) Try.func7
    (ChangeSpec.witness6 (enc := enc) (C := Try.checked) false ⟨#[], #[.slice none 0 0, .slice none 0 0], []⟩ 8 (by kernel_rfl) (by kernel_rfl) (by kernel_rfl) (by kernel_rfl)) ?_
  intro W base args ds gs before hval0 hW hcnd hsz0 _
  have hval : ∀ (j : Nat) t v, Try.f7.params[j]? = some t → args[j]? = some v → Value.okWide Try.prog W .any base t v := hval0
  have hW' := hW
  obtain ⟨p, q, hA0, hV, rfl, hfz, hnd⟩ := hW
  have hA : DataW.TrodAll enc Try.prog W 0 (fun _ => true) true Try.f7.params.toList args.toList ds p := hA0
  have hsz : (DataW.weightsEach Try.prog (Try.f7.params.toList ++ Rows.snapApartSpec.plain.varTypes Try.prog) (ds ++ gs)).all (· ≤ reachBytes) = true := hsz0
  rw [Try.params7] at hA hval hsz
  obtain ⟨v0, vs0, d0, ds0, p0, q0, hargs, rfl, rfl, h0, r0⟩ := trodAll_cons hA
  obtain ⟨v1, vs1, d1, ds1, p1, q1, rfl, rfl, rfl, h1, r1⟩ := trodAll_cons r0
  obtain ⟨rfl, rfl, rfl⟩ := trodAll_nil r1
  obtain rfl : args = #[v0, v1] := by cases args; simp_all
  obtain ⟨rfl, rfl⟩ := trodVars_none hV
  obtain ⟨fuel0, hf0⟩ := h0
  obtain ⟨l0, hs0⟩ := rd_items _ _ _ hf0 (fun n hn => by
    have := List.all_eq_true.1 hsz n (DataW.weights_mem_each (j := 0) rfl rfl n hn)
    simpa using this)
  obtain ⟨u0, hc0, ha0, hl0, hb0⟩ := items_of hs0
  obtain ⟨A0, n0, c0, rfl⟩ := okWide_slice Try.underlying36 (hval 0 36 v0 rfl rfl)
  obtain rfl : (.slice A0 n0 c0 : Value) = u0 := by simpa [Value.cells] using hc0
  have hi0 : Its W (.slice A0 n0 c0) l0 := ⟨ha0, hl0, fun it hit => (hb0 it hit).vab, fun it hit => (hb0 it hit).ids, fun it hit => (hb0 it hit).itt⟩
  obtain ⟨fuel1, hf1⟩ := h1
  obtain ⟨l1, hs1⟩ := rd_items _ _ _ hf1 (fun n hn => by
    have := List.all_eq_true.1 hsz n (DataW.weights_mem_each (j := 1) rfl rfl n hn)
    simpa using this)
  obtain ⟨u1, hc1, ha1, hl1, hb1⟩ := items_of hs1
  obtain ⟨A1, n1, c1, rfl⟩ := okWide_slice Try.underlying36 (hval 1 36 v1 rfl rfl)
  obtain rfl : (.slice A1 n1 c1 : Value) = u1 := by simpa [Value.cells] using hc1
  have hi1 : Its W (.slice A1 n1 c1) l1 := ⟨ha1, hl1, fun it hit => (hb1 it hit).vab, fun it hit => (hb1 it hit).ids, fun it hit => (hb1 it hit).itt⟩
  refine (apart_walk l0 l1 _ _ W hi0 hi1).mono fun e W' ⟨he, hg⟩ => ?_
  subst he
  exact ⟨_, rfl, law_post (bt := 4) (by kernel_rfl) (by kernel_rfl) Try.underlying4 rfl rfl hW' rfl hg⟩

theorem proved : Rows.SnapApartSaid :=
  OpenClaim.holds_of_wide 7 Try.f7 rfl rfl rfl rfl rfl rfl rfl ⟨rfl, rfl, rfl, rfl, rfl⟩ rfl rfl rfl rfl rfl (by kernel_rfl) Try.func7 (by kernel_rfl)
    (of_decide_eq_true (by kernel_rfl)) (by unfold Func.isWrapper; first | (rw [if_pos (by decide +kernel)]; kernel_rfl) | (rw [if_neg (by decide +kernel)]; exact ⟨rfl, rfl⟩))
    (fun os started H enc _ => lifted os started H enc)
end Go.Proofs.Ytpnmhldaaaemeaa.SnapApart
