import Derived.Test.YtpnmhldaaaemeaaGreatMa23
import Derived.Test.YtpnmhldaaaemeaaGreatRows
import Derived.Test.YtpnmhldaaaemeaaGreatMa24
import Derived.SizedLaws
import Derived.OpenShut
import Derived.Lib.SmallJoins
/- The walk of SnapEncodes: it answers true. -/
namespace Go.Proofs.YtpnmhldaaaemeaaGreat.Snp
open Go.RowKit Go.Proofs.YtpnmhldaaaemeaaGreat.Pin
set_option maxHeartbeats 4000000 in
set_option maxRecDepth 100000 in
theorem encodes_walk (l : List It) (v : Value) (w : World) (hl : Its w v l) :
    Calls Tryz.prog 3 #[v] w fun e w' => e = .returned (.bool true) ∧ Below w.heap.size w w' := by
  have HL := Lib.hid hl
  clear hl
  go_enter Tryz.func3, Tryz.ntmps3
  go_wp2_with fail
  refine (HL.out.size).mono ?_
  rintro e w3 ⟨n1, rfl, hn1, hs1, hb2⟩
  have HB3 := Lib.hid hb2
  have HN1 := Lib.hid hn1
  have HS1 := Lib.hid hs1
  clear hb2 hn1 hs1
  go_wp2_with fail
  have hcl : ∀ j (h : j < [(n1 : Int)].length), (w3.alloc (.cells #[.int .i64 (n1 : Int)] 3)).cell? ⟨w3.heap.size, j, none⟩ = some (.int .i64 [(n1 : Int)][j]) := by
    intro j hj
    have : j = 0 := by simpa using hj
    subst this
    simp
  have HB4 : Hid (Below w.heap.size w (w3.alloc (.cells #[.int .i64 (n1 : Int)] 3))) := Lib.hid (HB3.out.alloc HB3.out.size _)
  refine (Bey.beyond_any [(n1 : Int)] 1 w3.heap.size _ (by simp) (by intro x hx; obtain rfl := List.mem_singleton.1 hx; have := HN1.out; omega) hcl).mono ?_
  rintro e w4 ⟨rfl, rfl⟩
  cases hq : Bey.beyond 0 [(n1 : Int)] with
  | true =>
    clear hcl hq
    go_wp2_with fail
    go_ret
    exact ⟨rfl, HB4.out⟩
  | false =>
    have hle : n1 ≤ 1048576 := by
      have h := hq
      simp only [Bey.beyond, Int.zero_add] at h
      split at h
      · cases h
      · omega
    have HZ1 : Hid (szBy szIt l ≤ 1048576) := Lib.hid (by have h1 := HS1.out hle; omega)
    have HLL : Hid (l.length ≤ 1048576) := Lib.hid (Nat.le_trans (len_sz szIt l) HZ1.out)
    obtain ⟨W2, hW2⟩ : ∃ W2, W2 = w3.alloc (.cells #[.int .i64 (n1 : Int)] 3) := ⟨_, rfl⟩
    rw [← hW2] at HB4 ⊢
    clear hcl hq hW2 HB3 hle HN1 HS1
    go_wp2_with fail
    refine (twin_items l v W2 (HL.out.below HB4.out).at_ HLL.out (few_of HZ1.out)).mono ?_
    rintro e w5 ⟨⟨u, rfl, hu⟩, hb5⟩
    have HB5 := Lib.hid (HB4.out.trans (hb5.mono HB4.out.size))
    have HU := Lib.hid hu
    have HIU : Hid (Its w5 u l) := Lib.hid ⟨items_tw hu, HL.out.len, HL.out.vab, HL.out.ids, HL.out.itt⟩
    clear hb5 hu
    go_wp2_with fail
    refine (HIU.out.enc HZ1.out).mono ?_
    rintro e w6 ⟨rfl, hb6⟩
    have HX6 := Lib.hid hb6
    have HB6 := Lib.hid (HB5.out.trans (hb6.mono HB5.out.size))
    clear hb6
    have HRE := Lib.hid ((HL.out.below HB6.out).refEnc HZ1.out)
    have hsame : ∀ s : ByteArray, (s.toList == s.toList) = true := fun s => by simp
    have hs0 := hsame ⟨(encS l).toArray⟩
    have HE0 : Hid (∀ n : Int, n = eno (CheckP l) → (n == n) = true) := Lib.hid (fun n _ => by simp)
    obtain ⟨en, hen⟩ : ∃ en, en = eno (CheckP l) := ⟨_, rfl⟩
    obtain ⟨tx, htx⟩ : ∃ tx : ByteArray, tx = ⟨(encS l).toArray⟩ := ⟨_, rfl⟩
    have HCK : Hid (∀ W, Below w5.heap.size w5 W → Calls Tryz.prog 9 #[u] W fun e w' => e = .returned (.int .i64 en) ∧ Below W.heap.size W w') := Lib.hid (fun W hW => by rw [hen]; exact (HIU.out.below hW).check)
    have HRC : Hid (∀ W, Below w.heap.size w W → Calls Tryz.prog 10 #[v] W fun e w' => e = .returned (.int .i64 en) ∧ Below W.heap.size W w') := Lib.hid (fun W hW => by rw [hen]; exact (HL.out.below hW).refCheck)
    have HLI : Hid (∀ W, Below w5.heap.size w5 W → Below w.heap.size w W → Calls Tryz.prog 11 #[u, v] W fun e w' => e = .returned (.bool true) ∧ Below W.heap.size W w') := Lib.hid (fun W hW hW' =>
      left_items l u v W _ (HU.out.keep tw_it hW.size (fun r _ hr => hW.block r hr)) (HL.out.below hW').at_ HLL.out (few_of HZ1.out))
    rw [← hen, ← htx] at HRE
    rw [← hen, ← htx]
    rw [← htx] at hs0
    clear hen htx hsame HE0
    go_wp2_with fail
    refine HRE.out.mono ?_
    rintro e w7 ⟨rfl, hb7⟩
    have HX7 := Lib.hid (HX6.out.trans (hb7.mono HX6.out.size))
    have HB7 := Lib.hid (HB6.out.trans (hb7.mono HB6.out.size))
    clear hb7
    go_wp2_with fail
    refine (HCK.out _ HX7.out).mono ?_
    rintro e w8 ⟨rfl, hb8⟩
    have HX8 := Lib.hid (HX7.out.trans (hb8.mono HX7.out.size))
    have HB8 := Lib.hid (HB7.out.trans (hb8.mono HB7.out.size))
    clear hb8
    go_wp2_with fail
    refine (HRC.out _ HB8.out).mono ?_
    rintro e w9 ⟨rfl, hb9⟩
    have HX9 := Lib.hid (HX8.out.trans (hb9.mono HX8.out.size))
    have HB9 := Lib.hid (HB8.out.trans (hb9.mono HB8.out.size))
    clear hb9
    go_wp2_with fail
    refine (HLI.out _ HX9.out HB9.out).mono ?_
    rintro e w10 ⟨rfl, hb10⟩
    have HB10 := Lib.hid (HB9.out.trans (hb10.mono HB9.out.size))
    clear hb10
    go_wp2_with fail
    go_ret
    exact ⟨rfl, HB10.out⟩
end Go.Proofs.YtpnmhldaaaemeaaGreat.Snp
/- The statement SnapEncodes: for every input the law's function returns true, and its arguments read as before. The row's step round the walk. -/
namespace Go.Proofs.YtpnmhldaaaemeaaGreat.SnapEncodes
open Go.Proofs.YtpnmhldaaaemeaaGreat.Snp Go.Proofs.YtpnmhldaaaemeaaGreat.Rdg Go.ChangeShapes Go.WideShapes Go.ChangeAt Go.RowKit Go.Joins Go.Proofs.YtpnmhldaaaemeaaGreat.Law
open Go.ChangeMaps (open_string)
set_option linter.unusedVariables false

theorem own : ownKnob Tryz.prog.godebug = none := by kernel_rfl

set_option maxRecDepth 100000 in
theorem lifted (os : Os) (started : os.Started) (H : Type) (enc : TypeId × Value → H) :
    ReturnsInHanded {} Tryz.checked os 3 .any (Rows.snapEncodesSpec.pre6 enc Tryz.prog Tryz.f3 Rows.snapEncodesRow.domain false) (Rows.snapEncodesSpec.post enc Tryz.prog Tryz.f3 false true false false) := by
  refine returnsInHanded_of_change_sized (C := Tryz.checked) own started (by kernel_rfl) Tryz.func3
    (ChangeSpec.witness6 (enc := enc) (C := Tryz.checked) false ⟨#[], #[.slice none 0 0], []⟩ 8 (by kernel_rfl) (by kernel_rfl) (by kernel_rfl) (by kernel_rfl)) ?_
  intro W base args ds gs before hval0 hW hcnd hsz0 _
  have hval : ∀ (j : Nat) t v, Tryz.f3.params[j]? = some t → args[j]? = some v → Value.okWide Tryz.prog W .any base t v := hval0
  have hW' := hW
  obtain ⟨p, q, hA0, hV, rfl, hfz, hnd⟩ := hW
  have hA : DataW.TrodAll enc Tryz.prog W 0 (fun _ => true) true Tryz.f3.params.toList args.toList ds p := hA0
  have hsz : (DataW.weightsEach Tryz.prog (Tryz.f3.params.toList ++ Rows.snapEncodesSpec.plain.varTypes Tryz.prog) (ds ++ gs)).all (· ≤ reachBytes) = true := hsz0
  rw [Tryz.params3] at hA hval hsz
  obtain ⟨v0, vs0, d0, ds0, p0, q0, hargs, rfl, rfl, h0, r0⟩ := trodAll_cons hA
  obtain ⟨rfl, rfl, rfl⟩ := trodAll_nil r0
  obtain rfl : args = #[v0] := by cases args; simp_all
  obtain ⟨rfl, rfl⟩ := trodVars_none hV
  obtain ⟨fuel0, hf0⟩ := h0
  obtain ⟨l0, hs0⟩ := rd_items _ _ _ hf0 (fun n hn => by
    have := List.all_eq_true.1 hsz n (DataW.weights_mem_each (j := 0) rfl rfl n hn)
    simpa using this)
  obtain ⟨u0, hc0, ha0, hl0, hb0⟩ := items_of hs0
  obtain ⟨A0, n0, c0, rfl⟩ := okWide_slice Tryz.underlying22 (hval 0 22 v0 rfl rfl)
  obtain rfl : (.slice A0 n0 c0 : Value) = u0 := by simpa [Value.cells] using hc0
  have hi0 : Its W (.slice A0 n0 c0) l0 := ⟨ha0, hl0, fun it hit => (hb0 it hit).vab, fun it hit => (hb0 it hit).ids, fun it hit => (hb0 it hit).itt⟩
  refine (encodes_walk l0 _ W hi0).mono fun e W' ⟨he, hg⟩ => ?_
  subst he
  exact ⟨_, rfl, law_post (bt := 4) (by kernel_rfl) (by kernel_rfl) Tryz.underlying4 rfl rfl hW' rfl hg⟩

theorem proved : Rows.SnapEncodesSaid :=
  OpenClaim.holds_of_wide 3 Tryz.f3 rfl rfl rfl rfl rfl rfl rfl ⟨rfl, rfl, rfl, rfl, rfl⟩ rfl rfl rfl rfl rfl (by kernel_rfl) Tryz.func3 (by kernel_rfl)
    (of_decide_eq_true (by kernel_rfl)) (by unfold Func.isWrapper; first | (rw [if_pos (by decide +kernel)]; kernel_rfl) | (rw [if_neg (by decide +kernel)]; exact ⟨rfl, rfl⟩))
    (fun os started H enc _ => lifted os started H enc)
end Go.Proofs.YtpnmhldaaaemeaaGreat.SnapEncodes
