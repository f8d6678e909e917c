import Derived.Test.YtpnmhldaaaemeaaMa21
import Derived.Test.YtpnmhldaaaemeaaRows
import Derived.Test.YtpnmhldaaaemeaaMa22
import Derived.SizedLaws
import Derived.OpenShut
import Derived.Lib.SmallJoins
/- The walk of SnapOne: it answers true. -/
namespace Go.Proofs.Ytpnmhldaaaemeaa.Snp
open Go.RowKit Go.Proofs.Ytpnmhldaaaemeaa.Pin
set_option maxHeartbeats 4000000 in
set_option maxRecDepth 100000 in
theorem one_walk (s : List UInt8) (w : World) (hs : s.length ≤ 4503599627370496) :
    Calls Try.prog 5 #[.string ⟨s.toArray⟩] w fun e w' => e = .returned (.bool true) ∧ Below w.heap.size w w' := by
  have HS := Lib.hid hs
  have q1 := size_of s
  obtain ⟨sn, hsn⟩ : ∃ sn, sn = s.length := ⟨_, rfl⟩
  rw [← hsn] at q1
  have HSN := Lib.hid hsn
  clear hs hsn
  go_enter Try.func5, Try.ntmps5
  go_wp2_with fail
  refine (alive_any _).mono ?_
  rintro e w1 ⟨rfl, hb1⟩
  have HB1 := Lib.hid hb1
  clear hb1
  go_wp2_with fail
  have hcl : ∀ j (h : j < [(sn : Int)].length), (w1.alloc (.cells #[.int .i64 (sn : Int)] 3)).cell? ⟨w1.heap.size, j, none⟩ = some (.int .i64 [(sn : Int)][j]) := by
    intro j hj
    have : j = 0 := by simpa using hj
    subst this
    simp
  have HB2 : Hid (Below w.heap.size w (w1.alloc (.cells #[.int .i64 (sn : Int)] 3))) := Lib.hid (HB1.out.alloc HB1.out.size _)
  refine (Bey.beyond_any [(sn : Int)] 1 w1.heap.size _ (by simp) (by intro x hx; obtain rfl := List.mem_singleton.1 hx; have := HSN.out; have := HS.out; omega) hcl).mono ?_
  rintro e w2 ⟨rfl, rfl⟩
  cases hq : Bey.beyond 0 [(sn : Int)] with
  | true =>
    clear hcl hq
    go_wp2_with fail
    refine (alive_any _).mono ?_
    rintro e w3 ⟨rfl, hb3⟩
    have HB3 := Lib.hid (HB2.out.trans (hb3.mono HB2.out.size))
    clear hb3
    go_wp2_with fail
    go_ret
    exact ⟨rfl, HB3.out⟩
  | false =>
    have hle : s.length ≤ 1048576 := by
      have h := hq
      simp only [Bey.beyond, Int.zero_add] at h
      have := HSN.out
      split at h
      · cases h
      · omega
    have HLE := Lib.hid hle
    obtain ⟨W2, hW2⟩ : ∃ W2, W2 = w1.alloc (.cells #[.int .i64 (sn : Int)] 3) := ⟨_, rfl⟩
    rw [← hW2] at HB2 ⊢
    have HDE := Lib.hid (decode_any s W2 (by omega))
    clear hcl hq hW2 HB1 hle
    go_wp2_with fail
    refine HDE.out.mono ?_
    rintro e w3 ⟨hb3, hd⟩
    have HB3 := Lib.hid (HB2.out.trans (hb3.mono HB2.out.size))
    clear hb3
    cases hdec : decP s with
    | none =>
      rw [hdec] at hd
      subst hd
      clear hdec
      go_wp2_with fail
      go_ret
      exact ⟨rfl, HB3.out⟩
    | some l =>
      rw [hdec] at hd
      obtain ⟨v, rfl, hon⟩ := hd
      obtain ⟨ho, hc, he⟩ := decP_some hdec
      have hll : l.length ≤ 140737488351232 := by
        have h1 := itemsE_len l
        have h2 := congrArg List.length (enc_eq hc)
        rw [List.length_append, List.length_append, ← he] at h2
        have := HLE.out
        omega
      have HEN := Lib.hid (enc_yes l v w3 (items_at hon) hll (fun it hit => (va_b (ho it hit).val).1) (fun it hit => (va_b (ho it hit).val).2) (by rw [← he]; have := HLE.out; omega) hc)
      rw [← he] at HEN
      have HCK : Hid (∀ W, Below w3.heap.size w3 W → w3.heap.size ≤ W.heap.size → Calls Try.prog 10 #[v] W fun e w' => e = .returned (.int .i64 0) ∧ Below W.heap.size W w') := Lib.hid (fun W hW hs => by
        have h := check_any l v W (((items_at hon).below hW).more hs) hll (fun it hit => (va_b (ho it hit).val).1)
        rw [eno_yes hc] at h
        exact h)
      clear hdec hon ho hc he hll
      go_wp2_with fail
      refine HEN.out.mono ?_
      rintro e w4 ⟨rfl, hb4⟩
      have HB4 := Lib.hid (HB3.out.trans (hb4.mono HB3.out.size))
      have HX4 := Lib.hid hb4
      clear hb4
      go_wp2_with fail
      refine (HCK.out _ HX4.out HX4.out.size).mono ?_
      rintro e w5 ⟨rfl, hb5⟩
      have HB5 := Lib.hid (HB4.out.trans (hb5.mono HB4.out.size))
      clear hb5
      go_wp2_with fail
      go_ret
      exact ⟨rfl, HB5.out⟩
end Go.Proofs.Ytpnmhldaaaemeaa.Snp
/- The statement SnapOne: for every input the law's function returns true, and its arguments read as before. The row's step round the walk. -/
namespace Go.Proofs.Ytpnmhldaaaemeaa.SnapOne
open Go.Proofs.Ytpnmhldaaaemeaa.Snp Go.Proofs.Ytpnmhldaaaemeaa.Rdg Go.ChangeShapes Go.WideShapes Go.ChangeAt Go.RowKit Go.Joins Go.Proofs.Ytpnmhldaaaemeaa.Law
open Go.ChangeMaps (open_string)
set_option linter.unusedVariables false

theorem own : ownKnob Try.prog.godebug = none := by kernel_rfl

set_option maxRecDepth 100000 in
theorem lifted (os : Os) (started : os.Started) (H : Type) (enc : TypeId × Value → H) :
    ReturnsInHanded {} Try.checked os 5 .any (Rows.snapOneSpec.pre6 enc Try.prog Try.f5 Rows.snapOneRow.domain false) (Rows.snapOneSpec.post enc Try.prog Try.f5 false true false false) := by
  refine returnsInHanded_of_change_sized (C := Try.checked) own started (by kernel_rfl) Try.func5
    (ChangeSpec.witness6 (enc := enc) (C := Try.checked) false ⟨#[], #[.string ⟨#[]⟩], []⟩ 8 (by kernel_rfl) (by kernel_rfl) (by kernel_rfl) (by kernel_rfl)) ?_
  intro W base args ds gs before hval0 hW hcnd hsz0 _
  have hval : ∀ (j : Nat) t v, Try.f5.params[j]? = some t → args[j]? = some v → Value.okWide Try.prog W .any base t v := hval0
  have hW' := hW
  obtain ⟨p, q, hA0, hV, rfl, hfz, hnd⟩ := hW
  have hA : DataW.TrodAll enc Try.prog W 0 (fun _ => true) true Try.f5.params.toList args.toList ds p := hA0
  have hsz : (DataW.weightsEach Try.prog (Try.f5.params.toList ++ Rows.snapOneSpec.plain.varTypes Try.prog) (ds ++ gs)).all (· ≤ reachBytes) = true := hsz0
  rw [Try.params5] at hA hval hsz
  obtain ⟨v0, vs0, d0, ds0, p0, q0, hargs, rfl, rfl, h0, r0⟩ := trodAll_cons hA
  obtain ⟨rfl, rfl, rfl⟩ := trodAll_nil r0
  obtain rfl : args = #[v0] := by cases args; simp_all
  obtain ⟨rfl, rfl⟩ := trodVars_none hV
  obtain ⟨fuel0, hf0⟩ := h0
  obtain ⟨s0, hcs0, hs0⟩ := rd_string Try.underlying9 _ _ _ hf0 (fun n hn => by
    have := List.all_eq_true.1 hsz n (DataW.weights_mem_each (j := 0) rfl rfl n hn)
    simpa using this)
  obtain ⟨t0, rfl⟩ := okWide_string Try.underlying9 (hval 0 9 v0 rfl rfl)
  obtain rfl : t0 = s0 := by simpa [Value.cells] using hcs0
  obtain ⟨⟨l0⟩⟩ := t0
  have hl0 : l0.length ≤ 140737488351232 := hs0
  refine (one_walk l0 W (by omega)).mono fun e W' ⟨he, hg⟩ => ?_
  subst he
  exact ⟨_, rfl, law_post (bt := 4) (by kernel_rfl) (by kernel_rfl) Try.underlying4 rfl rfl hW' rfl hg⟩

theorem proved : Rows.SnapOneSaid :=
  OpenClaim.holds_of_wide 5 Try.f5 rfl rfl rfl rfl rfl rfl rfl ⟨rfl, rfl, rfl, rfl, rfl⟩ rfl rfl rfl rfl rfl (by kernel_rfl) Try.func5 (by kernel_rfl)
    (of_decide_eq_true (by kernel_rfl)) (by unfold Func.isWrapper; first | (rw [if_pos (by decide +kernel)]; kernel_rfl) | (rw [if_neg (by decide +kernel)]; exact ⟨rfl, rfl⟩))
    (fun os started H enc _ => lifted os started H enc)
end Go.Proofs.Ytpnmhldaaaemeaa.SnapOne
