import Derived.Test.YtpnmhldaaaemeaaMa16
import Derived.Test.YtpnmhldaaaemeaaMa13
import Derived.Test.YtpnmhldaaaemeaaMa17
/- Chapter 24: Decode. -/
namespace Go.Proofs.Ytpnmhldaaaemeaa.Snp
open Go.RowKit Go.Proofs.Ytpnmhldaaaemeaa.Pin
def DecOut (w : World) (s : List UInt8) (e : Ending) (w' : World) : Prop := Below w.heap.size w w' ∧ match decP s with
  | some l => ∃ v, e = .returned (.tuple #[v, .int .i64 0]) ∧ ItemsOn w' (fun r => w.heap.size ≤ r) v l
  | none => e = .returned (.tuple #[.slice none 0 0, .int .i64 4])
theorem DecOut.no {w w' : World} {s : List UInt8} (hd : decP s = none) (hb : Below w.heap.size w w') : DecOut w s (.returned (.tuple #[.slice none 0 0, .int .i64 4])) w' := ⟨hb, by rw [hd]⟩
theorem res_new (w : World) : Res ((w.alloc (.cells #[.slice none 0 0] 36)).alloc (.cells #[.int .i64 0] 37)) w.heap.size (.slice none 0 0) (.int .i64 0) := by
  refine ⟨(heap_alloc_old _ _ (by simp)).trans (heap_alloc_new w _), ?_⟩
  have := heap_alloc_new (w.alloc (.cells #[.slice none 0 0] 36)) (.cells #[.int .i64 0] 37)
  simpa using this
/-- the text that is cut -/
theorem cut_is (s : List UInt8) (h : Lib.hasPrefix s magicB = true) : Lib.trimPrefix s magicB = s.drop 10 := by unfold Lib.trimPrefix; rw [if_pos h]; rfl
theorem short_none {s : List UInt8} (h : Lib.hasPrefix s magicB = false ∨ s.length < 19) : decP s = none := by
  unfold decP
  rw [if_neg]
  rintro ⟨h1, h2⟩
  rcases h with h | h
  · rw [h1] at h; cases h
  · omega
theorem cut_any (s : List UInt8) (w : World) : Calls Try.prog 25 #[.string ⟨s.toArray⟩, .string ⟨magicB.toArray⟩] w fun e w' => e = .returned (.tuple #[.string ⟨(Lib.trimPrefix s magicB).toArray⟩, .bool (Lib.hasPrefix s magicB)]) ∧ w = w' :=
  (Shf.strings_CutPrefix ⟨s.toArray⟩ ⟨magicB.toArray⟩ w).mono fun e w' ⟨h1, h2⟩ => ⟨by simpa using h1, h2.symm⟩
theorem res_read {W : World} {c : Nat} {x y : Value} (h : Res W c x y) (tmps : Array Value) (h2 : tmps[2]?.getD undef = .pointer (some ⟨c, 0, none⟩)) (h3 : tmps[3]?.getD undef = .pointer (some ⟨c + 1, 0, none⟩)) :
    (results Try.f14 tmps).run Try.prog W = .ok (.tuple #[x, y]) W := by
  obtain ⟨a1, -, -, -⟩ := h.set1 .nilIface
  obtain ⟨b1, -, -, -⟩ := h.set2 .nilIface
  unfold results
  rw [Try.results14]
  simp [go_sem, h2, h3, a1, b1]
theorem size_of (s : List UInt8) : ByteArray.size ⟨s.toArray⟩ = s.length := by show s.toArray.size = _; simp
set_option maxHeartbeats 1000000 in
set_option maxRecDepth 100000 in
theorem dec_short (s : List UInt8) (w : World) (h : Lib.hasPrefix s magicB = false ∨ s.length < 19) :
    Calls Try.prog 14 #[.string ⟨s.toArray⟩] w (DecOut w s) := by
  have HD := Lib.hid (short_none h)
  have h1 := res_new w
  obtain ⟨a1, a2, a3, h2⟩ := h1.set1 (.slice none 0 0)
  obtain ⟨b1, b2, b3, h3⟩ := h2.set2 (.int .i64 4)
  have H3 := Lib.hid h3
  have HB := Lib.hid (below_row (below_row (((Below.refl w.heap.size w).alloc (Nat.le_refl _) (.cells #[.slice none 0 0] 36)).alloc (by simp) (.cells #[.int .i64 0] 37)) (Nat.le_refl _) #[.slice none 0 0]) (Nat.le_succ _) #[.int .i64 4])
  clear h1 h2 h3
  have HC := Lib.hid (cut_any s)
  have HS : Hid (Lib.hasPrefix s magicB = false ∨ (Lib.hasPrefix s magicB = true ∧ s.length < 19)) := Lib.hid (by
    cases hp : Lib.hasPrefix s magicB
    · exact .inl rfl
    · rcases h with h | h
      · rw [hp] at h; cases h
      · exact .inr ⟨rfl, h⟩)
  clear h
  go_enter_defers Try.func14, Try.ntmps14
  go_wp2_with fail
  refine (HC.out _).mono ?_
  rintro e w1 ⟨rfl, rfl⟩
  obtain ⟨b, hb⟩ : ∃ b, b = Lib.trimPrefix s magicB := ⟨_, rfl⟩
  rw [← hb]
  rcases HS.out with hp | ⟨hp, hl⟩
  · rw [hp]
    clear hb HC HS
    go_wp2_with fail
    exact ⟨_, res_read H3.out _ rfl rfl, .no HD.out HB.out⟩
  · have q : ((b.length : Int) < 9) := by rw [hb, cut_is s hp, List.length_drop]; omega
    have q2 := size_of b
    rw [hp]
    clear hb HC HS
    go_wp2_with fail
    exact ⟨_, res_read H3.out _ rfl rfl, .no HD.out HB.out⟩
set_option maxHeartbeats 4000000 in
set_option maxRecDepth 100000 in
theorem dec_long (s : List UInt8) (w : World) (hp : Lib.hasPrefix s magicB = true) (hl : 19 ≤ s.length) (hs : s.length ≤ 549755813888) :
    Calls Try.prog 14 #[.string ⟨s.toArray⟩] w (DecOut w s) := by
  have hmf : ∀ (fn : Fn) (first cap : Array Value) (w : World), (Instr.makeFunc fn first cap).run Try.prog w = .ok (.func fn first cap) w := fun _ _ _ _ => rfl
  have HC := Lib.hid (cut_any s)
  have HL := Lib.hid hl
  have HS := Lib.hid hs
  obtain ⟨b, hb⟩ : ∃ b, b = Lib.trimPrefix s magicB := ⟨_, rfl⟩
  rw [hp, ← hb] at HC
  have hbs : b = s.drop 10 := by rw [hb, cut_is s hp]
  have hbl : b.length = s.length - 10 := by rw [hbs, List.length_drop]
  obtain ⟨t, ht⟩ : ∃ t, t = b.take (b.length - 8) := ⟨_, rfl⟩
  have htl : t.length = s.length - 18 := by rw [ht, List.length_take]; omega
  have HTE : Hid (t = (s.take (s.length - 8)).drop 10) := Lib.hid (by rw [ht, hbs, List.drop_take, List.length_drop, show s.length - 10 - 8 = s.length - 8 - 10 by omega])
  have HP := Lib.hid hp
  have q : ¬ ((b.length : Int) < 9) := by omega
  have q2 := size_of b
  have q3 : ((⟨b.toArray⟩ : ByteArray).extract 0 (b.length - 8)) = ⟨t.toArray⟩ := by rw [ext_take, ht]
  have q4 : IntKind.i64.wrap ((b.length : Int) - 8) = ((b.length - 8 : Nat) : Int) := by rw [IntKind.wrap_i64]; omega
  have q5 : b.length - 8 ≤ b.length := by omega
  obtain ⟨c, hc⟩ : ∃ c, c = w.heap.size := ⟨_, rfl⟩
  obtain ⟨g, hg⟩ : ∃ g, g = w.heap.size + 1 + 1 := ⟨_, rfl⟩
  obtain ⟨W0, hW0⟩ : ∃ W0, W0 = (w.alloc (.cells #[.slice none 0 0] 36)).alloc (.cells #[.int .i64 0] 37) := ⟨_, rfl⟩
  have hz0 : W0.heap.size = g := by rw [hW0, hg]; simp
  have HRG : Hid (Rdr (W0.alloc (.cells #[.string ⟨t.toArray⟩] 73)) g t) := Lib.hid (by rw [← hz0]; exact heap_alloc_new W0 _)
  have HRS : Hid (Res (W0.alloc (.cells #[.string ⟨t.toArray⟩] 73)) c (.slice none 0 0) (.int .i64 0)) := Lib.hid (by rw [hW0, hc]; exact (res_new w).alloc _)
  have HBW : Hid (Below w.heap.size w (W0.alloc (.cells #[.string ⟨t.toArray⟩] 73))) := Lib.hid (by rw [hW0]; exact ((((Below.refl w.heap.size w).alloc (Nat.le_refl _) (.cells #[.slice none 0 0] 36)).alloc (by simp) (.cells #[.int .i64 0] 37)).alloc (by simp; omega) _))
  have HCG : Hid (c = w.heap.size ∧ g = c + 2) := Lib.hid ⟨hc, by omega⟩
  have HIT := Lib.hid (items_rd t g _ HRG.out (by omega))
  have HW0 := Lib.hid hW0
  have HCE := Lib.hid hc
  have HGE := Lib.hid hg
  clear hp hl hs hb hbs hbl ht hc hg hW0 hz0
  go_enter_defers Try.func14, Try.ntmps14
  go_wp2_with fail
  refine (HC.out _).mono ?_
  rintro e w1 ⟨rfl, rfl⟩
  go_wp2_with fail
  rw [show w.heap.size + 1 + 1 = g from HGE.out.symm]
  rw [← HW0.out, ← HCE.out]
  refine HIT.out.mono ?_
  intro e w2 hgot
  cases hi : itemsP t with
  | none =>
    rw [hi] at hgot
    obtain ⟨rfl, ht⟩ := hgot.none_of
    have HRS2 : Hid (Res w2 c (.slice none 0 0) (.int .i64 0)) := Lib.hid ⟨(ht.block c (by have := HRS.out.lt; omega) (by have := HCG.out; omega)).trans HRS.out.1, (ht.block (c + 1) HRS.out.lt (by have := HCG.out; omega)).trans HRS.out.2⟩
    have HB2 : Hid (Below w.heap.size w w2) := Lib.hid (HBW.out.trans (ht.below (by have := HCG.out; omega) HRG.out.lt))
    have HD : Hid (decP s = none) := Lib.hid (by
      unfold decP
      rw [if_pos ⟨HP.out, HL.out⟩, ← HTE.out, hi])
    clear hgot ht hi
    go_wp2_with fail
    refine leaves_cons (f := 26) (args := #[.pointer (some ⟨c, 0, none⟩), .pointer (some ⟨c + 1, 0, none⟩)]) (by simp) (by simp [go_sem]) ?_
    refine (defer_catch c _ _ [] w2 HRS2.out).mono ?_
    rintro e u' w3 ⟨rfl, rfl, hr, hb⟩
    exact ⟨_, res_read hr _ rfl rfl, .no HD.out (HB2.out.trans (hb _ (by have := HCG.out; omega)))⟩
  | some x =>
    obtain ⟨l, r⟩ := x
    rw [hi] at hgot
    obtain ⟨⟨v, rfl, hon⟩, hr, ht⟩ := hgot.some_of
    obtain ⟨LA, LC, rfl, _⟩ := id hon
    obtain ⟨LN, hLN⟩ : ∃ LN, LN = l.length := ⟨_, rfl⟩
    rw [← hLN] at hon ⊢
    have HRS2 : Res w2 c (.slice none 0 0) (.int .i64 0) := ⟨(ht.block c (by have := HRS.out.lt; omega) (by have := HCG.out; omega)).trans HRS.out.1, (ht.block (c + 1) HRS.out.lt (by have := HCG.out; omega)).trans HRS.out.2⟩
    obtain ⟨a1, a2, a3, hx2⟩ := HRS2.set1 (.slice LA LN LC)
    have HB2 : Hid (Below w.heap.size w (w2.setRow c #[.slice LA LN LC])) := Lib.hid (below_row (HBW.out.trans (ht.below (by have := HCG.out; omega) HRG.out.lt)) (by have := HCG.out; omega) _)
    have HR2 : Hid (Rdr (w2.setRow c #[.slice LA LN LC]) g r) := Lib.hid (hr.row (by have := HCG.out; omega) _)
    have HO2 := Lib.hid hx2
    have HON : Hid (ItemsOn (w2.setRow c #[.slice LA LN LC]) (fun q => c + 2 ≤ q) (.slice LA LN LC) l) := Lib.hid (by
      have h1 : ItemsOn w2 (fun q => c + 2 ≤ q) (.slice LA LN LC) l := hon.mono it_el (fun q _ hq => by have := HRG.out.lt; have := HCG.out; omega)
      exact h1.keep it_el (by simp) (fun q hq _ => setRow_other w2 c q _ (by omega)))
    obtain ⟨hok, hcat⟩ := itemsP_fwd hi
    have HOK := Lib.hid hok
    have HLL : Hid (l.length ≤ 140737488351232) := Lib.hid (by
      have h1 := congrArg List.length hcat
      have h2 := itemsE_len l
      have h3 := HS.out
      rw [List.length_append, htl] at h1
      omega)
    have HI := Lib.hid hi
    have HLN := Lib.hid hLN
    clear hgot ht hi hon hr hx2 hok hcat hLN HRS2
    go_wp2_with fail
    clear a1 a2 a3
    obtain ⟨w3, hw3⟩ : ∃ w3, w3 = w2.setRow c #[.slice LA LN LC] := ⟨_, rfl⟩
    rw [← hw3] at HB2 HR2 HO2 HON ⊢
    clear hw3
    by_cases hr0 : r = []
    · subst hr0
      obtain ⟨r, hr⟩ : ∃ r : List UInt8, r = [] := ⟨_, rfl⟩
      rw [← hr] at HR2
      have HRE := Lib.hid hr
      clear hr
      have HCA : Hid (∀ W, Grow.Grows w3 W → Calls Try.prog 10 #[.slice LA LN LC] W fun e w' => e = .returned (.int .i64 (eno (CheckP l))) ∧ Below W.heap.size W w') := Lib.hid (fun W hW =>
        check_any l (.slice LA LN LC) W (((items_at HON.out).below hW).more hW.size) HLL.out (fun it hit => (va_b (HOK.out it hit).val).1))
      by_cases hck : CheckP l
      · have HCK : Hid (∀ W, Grow.Grows w3 W → Calls Try.prog 10 #[.slice LA LN LC] W fun e w' => e = .returned (.int .i64 0) ∧ Below W.heap.size W w') := Lib.hid (by have := HCA.out; rw [eno_yes hck] at this; exact this)
        obtain ⟨sn, hsn⟩ : ∃ sn, sn = s.length := ⟨_, rfl⟩
        obtain ⟨sm, hsm⟩ : ∃ sm, sm = s.length - 8 := ⟨_, rfl⟩
        obtain ⟨tl, htl⟩ : ∃ tl, tl = s.drop sm := ⟨_, rfl⟩
        obtain ⟨hd, hhd⟩ : ∃ hd, hd = s.take sm := ⟨_, rfl⟩
        obtain ⟨lt, hlt⟩ : ∃ lt, lt = lowN tl := ⟨_, rfl⟩
        obtain ⟨sh, hsh⟩ : ∃ sh, sh = sumB hd := ⟨_, rfl⟩
        have hl19 := HL.out
        have hl39 := HS.out
        have e1 : ByteArray.size ⟨s.toArray⟩ = sn := by rw [size_of, hsn]
        have e2 : IntKind.i64.wrap ((sn : Int) - 8) = (sm : Int) := by rw [IntKind.wrap_i64]; omega
        have e3 : (⟨s.toArray⟩ : ByteArray).extract sm sn = ⟨tl.toArray⟩ := by rw [← e1, ext_drop, htl]
        have e4 : (⟨s.toArray⟩ : ByteArray).extract 0 sm = ⟨hd.toArray⟩ := by rw [ext_take, hhd]
        have e5 : sm ≤ sn := by omega
        have TL : Hid (tl.length = 8) := Lib.hid (by rw [htl, List.length_drop]; omega)
        have HDL : Hid (hd.length ≤ 549755813888) := Lib.hid (by rw [hhd, List.length_take]; omega)
        have LT : Hid (lowN tl = lt) := Lib.hid hlt.symm
        have SH : Hid (sh = sumB hd) := Lib.hid hsh
        have HDEC : Hid (decP s = match decide (lt = sh) with
            | true => some l
            | false => none) := Lib.hid (by
          unfold decP
          rw [if_pos ⟨HP.out, HL.out⟩, ← HTE.out, HI.out]
          simp only
          rw [pb_true hck, ← hsm, ← htl, ← hhd, ← hlt, ← hsh]
          rfl)
        clear hsn hsm htl hhd hlt hsh hl19 hl39 hck HCA
        refine Grow.wp_region_grow [fun v _ => v = .pointer (some ⟨g, 0, none⟩), fun v _ => v = .pointer (some ⟨g, 0, none⟩), fun v _ => v = .pointer (some ⟨g, 0, none⟩), fun v _ => v = .string ⟨r.toArray⟩, fun v _ => v = .bool false, fun v _ => v = .bool false, fun v _ => v = .slice LA LN LC, fun v _ => v = .int .i64 0, fun v _ => v = .bool false, fun v _ => v = .bool false, fun v _ => v = .bool false, fun v _ => v = .string ⟨s.toArray⟩, fun v _ => v = .string ⟨s.toArray⟩, fun v _ => v = .int .i64 (sn : Int), fun v _ => v = .int .i64 (sm : Int), fun v _ => v = .string ⟨tl.toArray⟩, fun v W => ∃ blk cap, v = .slice (some ⟨blk, 0, none⟩) tl.length cap ∧ blk < W.heap.size ∧ ∀ j (h : j < tl.length), W.cell? ⟨blk, j, none⟩ = some (.int .u8 (tl[j].toNat : Int)), fun v _ => v = .int .u64 (lt : Int), fun v _ => v = .string ⟨s.toArray⟩, fun v _ => v = .string ⟨s.toArray⟩, fun v _ => v = .int .i64 (sn : Int), fun v _ => v = .int .i64 (sm : Int), fun v _ => v = .string ⟨hd.toArray⟩, fun v _ => v = .int .u64 (sh : Int), fun v _ => v = .bool (!decide (lt = sh)), fun v _ => v = .bool (!decide (lt = sh))]
          [[], [0], [1], [2], [3], [4], [5], [6, 5], [7, 5], [5, 8], [9], [10], [10], [12, 10], [13, 10], [11, 14, 10], [15, 10], [16, 10], [10], [10], [19, 10], [20, 10], [18, 21, 10], [22, 10], [17, 23, 10], [10, 24]] (by kernel_rfl) (by kernel_rfl) ?_ ?_ ?_
        · intro V hV
          have hst1 : ∀ x : Value, Grow.Stable (fun v _ => v = x) := fun x v w w' h _ => h
          have hst2 : Grow.Stable (fun v W => ∃ blk cap, v = .slice (some ⟨blk, 0, none⟩) tl.length cap ∧ blk < W.heap.size ∧ ∀ j (h : j < tl.length), W.cell? ⟨blk, j, none⟩ = some (.int .u8 (tl[j].toNat : Int))) :=
            fun v w w' ⟨b, c, h1, h2, h3⟩ hg => ⟨b, c, h1, Nat.lt_of_lt_of_le h2 hg.size, fun j hj => (Go.RowKit.Below.cell hg (p := ⟨b, j, none⟩) h2).trans (h3 j hj)⟩
          simp only [List.mem_cons, List.not_mem_nil, or_false] at hV
          rcases hV with rfl | rfl | rfl | rfl | rfl | rfl | rfl | rfl | rfl | rfl | rfl | rfl | rfl | rfl | rfl | rfl | rfl | rfl | rfl | rfl | rfl | rfl | rfl | rfl | rfl | rfl
          all_goals first | exact hst1 _ | exact hst2
        · skip
          refine .cons (fun u w' hR hF => ?_) ?_
          · skip
            refine Grow.gop_n rfl ?_
            go_simp
            exact Grow.Grows.refl _
          refine .cons (fun u w' hR hF => ?_) ?_
          · skip
            have f0 : u 0 = .pointer (some ⟨g, 0, none⟩) := hF.1
            refine Grow.gop_n rfl ?_
            go_simp
            exact Grow.Grows.refl _
          refine .cons (fun u w' hR hF => ?_) ?_
          · skip
            have f1 : u 1 = .pointer (some ⟨g, 0, none⟩) := hF.1
            refine Grow.gop_n rfl ?_
            go_simp
            exact Grow.Grows.refl _
          refine .cons (fun u w' hR hF => ?_) ?_
          · skip
            have f2 : u 2 = .pointer (some ⟨g, 0, none⟩) := hF.1
            refine Grow.gop_n rfl ?_
            have hc : w'.cell? ⟨g, 0, none⟩ = some (.string ⟨r.toArray⟩) := Rdr.cell (hR.block HR2.out)
            go_simp
            exact Grow.Grows.refl _
          refine .cons (fun u w' hR hF => ?_) ?_
          · skip
            have f3 : u 3 = .string ⟨r.toArray⟩ := hF.1
            refine Grow.gop_n rfl ?_
            go_simp
            exact ⟨Grow.Grows.refl _, HRE.out⟩
          refine .cons (fun u w' hR hF => ?_) ?_
          · skip
            have f4 : u 4 = .bool false := hF.1
            refine Grow.gop_n rfl ?_
            go_simp
            exact Grow.Grows.refl _
          refine .cons (fun u w' hR hF => ?_) ?_
          · skip
            have f5 : u 5 = .bool false := hF.1
            refine Grow.gop_y rfl (by simp [yielded, Grow.actL, Grow.dstOf, Act.put, f5]) ?_
            have hc := ((Res.set1 (show Res w' c _ _ from ⟨hR.block HO2.out.1, hR.block HO2.out.2⟩) .nilIface)).1
            go_simp
            exact Grow.Grows.refl _
          refine .cons (fun u w' hR hF => ?_) ?_
          · skip
            have f6 : u 6 = .slice LA LN LC := hF.1
            have f5 : u 5 = .bool false := hF.2.1
            refine Grow.gop_y rfl (by simp [yielded, Grow.actL, Grow.dstOf, Act.put, f5]) ?_
            go_simp
            exact (HCK.out w' hR).mono fun e w'' ⟨h1, h2⟩ => ⟨h1, h2⟩
          refine .cons (fun u w' hR hF => ?_) ?_
          · skip
            have f7 : u 7 = .int .i64 0 := hF.1
            have f5 : u 5 = .bool false := hF.2.1
            refine Grow.gop_y rfl (by simp [yielded, Grow.actL, Grow.dstOf, Act.put, f5]) ?_
            go_simp
            exact Grow.Grows.refl _
          refine .cons (fun u w' hR hF => ?_) ?_
          · skip
            have f5 : u 5 = .bool false := hF.1
            have f8 : u 8 = .bool false := hF.2.1
            refine Grow.gop_n rfl ?_
            go_simp
            exact Grow.Grows.refl _
          refine .cons (fun u w' hR hF => ?_) ?_
          · skip
            have f9 : u 9 = .bool false := hF.1
            refine Grow.gop_n rfl ?_
            go_simp
            exact Grow.Grows.refl _
          refine .cons (fun u w' hR hF => ?_) ?_
          · skip
            have f10 : u 10 = .bool false := hF.1
            refine Grow.gop_y rfl (by simp [yielded, Grow.actL, Grow.dstOf, Act.put, f10]) ?_
            go_simp
            exact Grow.Grows.refl _
          refine .cons (fun u w' hR hF => ?_) ?_
          · skip
            have f10 : u 10 = .bool false := hF.1
            refine Grow.gop_y rfl (by simp [yielded, Grow.actL, Grow.dstOf, Act.put, f10]) ?_
            go_simp
            exact Grow.Grows.refl _
          refine .cons (fun u w' hR hF => ?_) ?_
          · skip
            have f12 : u 12 = .string ⟨s.toArray⟩ := hF.1
            have f10 : u 10 = .bool false := hF.2.1
            refine Grow.gop_y rfl (by simp [yielded, Grow.actL, Grow.dstOf, Act.put, f10]) ?_
            go_simp
            exact Grow.Grows.refl _
          refine .cons (fun u w' hR hF => ?_) ?_
          · skip
            have f13 : u 13 = .int .i64 (sn : Int) := hF.1
            have f10 : u 10 = .bool false := hF.2.1
            refine Grow.gop_y rfl (by simp [yielded, Grow.actL, Grow.dstOf, Act.put, f10]) ?_
            go_simp
            exact Grow.Grows.refl _
          refine .cons (fun u w' hR hF => ?_) ?_
          · skip
            have f11 : u 11 = .string ⟨s.toArray⟩ := hF.1
            have f14 : u 14 = .int .i64 (sm : Int) := hF.2.1
            have f10 : u 10 = .bool false := hF.2.2.1
            refine Grow.gop_y rfl (by simp [yielded, Grow.actL, Grow.dstOf, Act.put, f10]) ?_
            go_simp
            exact Grow.Grows.refl _
          refine .cons (fun u w' hR hF => ?_) ?_
          · skip
            have f15 : u 15 = .string ⟨tl.toArray⟩ := hF.1
            have f10 : u 10 = .bool false := hF.2.1
            refine Grow.gop_y rfl (by simp [yielded, Grow.actL, Grow.dstOf, Act.put, f10]) ?_
            obtain ⟨W, C, hW, hC, hcl, hWs, hWb⟩ := bytes_world w' ⟨tl.toArray⟩
            have hcv := conv_bytes_of w' ⟨tl.toArray⟩
            rw [hW, hC, size_of] at hcv
            have HCL := Lib.hid hcl
            have HWS := Lib.hid hWs
            have HWB := Lib.hid hWb
            clear hW hC hcl hWs hWb
            go_simp
            exact ⟨HWB.out, by rw [HWS.out]; omega, fun j hj => by have := HCL.out j (by simpa using hj); simpa using this⟩
          refine .cons (fun u w' hR hF => ?_) ?_
          · skip
            obtain ⟨blk, cap, f16, _, hcl⟩ := hF.1
            have f10 : u 10 = .bool false := hF.2.1
            refine Grow.gop_y rfl (by simp [yielded, Grow.actL, Grow.dstOf, Act.put, f10]) ?_
            have HLO := Lib.hid (Low.low_any blk tl cap w' (by have := TL.out; omega) hcl)
            clear hcl
            go_simp
            refine HLO.out.mono fun e w'' ⟨h1, h2⟩ => ⟨?_, ?_⟩
            · rw [h1]
              unfold Uw.U
              rw [low_same tl (by have := TL.out; omega), LT.out]
            · subst h2; exact Grow.Grows.refl _
          refine .cons (fun u w' hR hF => ?_) ?_
          · skip
            have f10 : u 10 = .bool false := hF.1
            refine Grow.gop_y rfl (by simp [yielded, Grow.actL, Grow.dstOf, Act.put, f10]) ?_
            go_simp
            exact Grow.Grows.refl _
          refine .cons (fun u w' hR hF => ?_) ?_
          · skip
            have f10 : u 10 = .bool false := hF.1
            refine Grow.gop_y rfl (by simp [yielded, Grow.actL, Grow.dstOf, Act.put, f10]) ?_
            go_simp
            exact Grow.Grows.refl _
          refine .cons (fun u w' hR hF => ?_) ?_
          · skip
            have f19 : u 19 = .string ⟨s.toArray⟩ := hF.1
            have f10 : u 10 = .bool false := hF.2.1
            refine Grow.gop_y rfl (by simp [yielded, Grow.actL, Grow.dstOf, Act.put, f10]) ?_
            go_simp
            exact Grow.Grows.refl _
          refine .cons (fun u w' hR hF => ?_) ?_
          · skip
            have f20 : u 20 = .int .i64 (sn : Int) := hF.1
            have f10 : u 10 = .bool false := hF.2.1
            refine Grow.gop_y rfl (by simp [yielded, Grow.actL, Grow.dstOf, Act.put, f10]) ?_
            go_simp
            exact Grow.Grows.refl _
          refine .cons (fun u w' hR hF => ?_) ?_
          · skip
            have f18 : u 18 = .string ⟨s.toArray⟩ := hF.1
            have f21 : u 21 = .int .i64 (sm : Int) := hF.2.1
            have f10 : u 10 = .bool false := hF.2.2.1
            refine Grow.gop_y rfl (by simp [yielded, Grow.actL, Grow.dstOf, Act.put, f10]) ?_
            go_simp
            exact Grow.Grows.refl _
          refine .cons (fun u w' hR hF => ?_) ?_
          · skip
            have f22 : u 22 = .string ⟨hd.toArray⟩ := hF.1
            have f10 : u 10 = .bool false := hF.2.1
            refine Grow.gop_y rfl (by simp [yielded, Grow.actL, Grow.dstOf, Act.put, f10]) ?_
            have HCR := Lib.hid (Sum.crc_any ⟨hd.toArray⟩ w' (by rw [size_of]; have := HDL.out; unfold maxLen; omega))
            go_simp
            refine HCR.out.mono fun e w'' ⟨h1, h2⟩ => ⟨?_, h2⟩
            rw [h1, SH.out]
            rfl
          refine .cons (fun u w' hR hF => ?_) ?_
          · skip
            have f17 : u 17 = .int .u64 (lt : Int) := hF.1
            have f23 : u 23 = .int .u64 (sh : Int) := hF.2.1
            have f10 : u 10 = .bool false := hF.2.2.1
            refine Grow.gop_y rfl (by simp [yielded, Grow.actL, Grow.dstOf, Act.put, f10]) ?_
            go_simp
            refine ⟨Grow.Grows.refl _, ?_⟩
            by_cases h : lt = sh
            · simp [h]
            · have h2 : (lt : Int) ≠ sh := by omega
              simp [h, h2]
          refine .cons (fun u w' hR hF => ?_) .nil
          · skip
            have f10 : u 10 = .bool false := hF.1
            have f24 : u 24 = .bool (!decide (lt = sh)) := hF.2.1
            refine Grow.gop_n rfl ?_
            go_simp
            exact Grow.Grows.refl _
        · intro w' hR
          have HG7 := Lib.hid hR
          clear hR
          refine .cons (fun x0 f0 => ?_)
          refine .cons (fun x1 f1 => ?_)
          refine .cons (fun x2 f2 => ?_)
          refine .cons (fun x3 f3 => ?_)
          refine .cons (fun x4 f4 => ?_)
          refine .cons (fun x5 f5 => ?_)
          refine .cons (fun x6 f6 => ?_)
          refine .cons (fun x7 f7 => ?_)
          refine .cons (fun x8 f8 => ?_)
          refine .cons (fun x9 f9 => ?_)
          refine .cons (fun x10 f10 => ?_)
          refine .cons (fun x11 f11 => ?_)
          refine .cons (fun x12 f12 => ?_)
          refine .cons (fun x13 f13 => ?_)
          refine .cons (fun x14 f14 => ?_)
          refine .cons (fun x15 f15 => ?_)
          refine .cons (fun x16 f16 => ?_)
          refine .cons (fun x17 f17 => ?_)
          refine .cons (fun x18 f18 => ?_)
          refine .cons (fun x19 f19 => ?_)
          refine .cons (fun x20 f20 => ?_)
          refine .cons (fun x21 f21 => ?_)
          refine .cons (fun x22 f22 => ?_)
          refine .cons (fun x23 f23 => ?_)
          refine .cons (fun x24 f24 => ?_)
          refine .cons (fun x25 f25 => ?_)
          refine .nil ?_
          subst f0
          subst f1
          subst f2
          subst f3
          subst f4
          subst f5
          subst f6
          subst f7
          subst f8
          subst f9
          subst f10
          subst f11
          subst f12
          subst f13
          subst f14
          subst f15
          obtain ⟨blk, cap, f16, _, _⟩ := f16
          subst f16
          subst f17
          subst f18
          subst f19
          subst f20
          subst f21
          subst f22
          subst f23
          subst f24
          subst f25
          by_cases heq : lt = sh
          · have HD : Hid (decP s = some l) := Lib.hid (by rw [HDEC.out, decide_eq_true heq])
            have e6 : (!decide (lt = sh)) = false := by rw [decide_eq_true heq]; rfl
            rw [e6]
            have hx : Res w' c _ _ := ⟨HG7.out.block HO2.out.1, HG7.out.block HO2.out.2⟩
            obtain ⟨a1, a2, a3, hx2⟩ := hx.set1 (.slice LA LN LC)
            obtain ⟨b1, b2, b3, hx3⟩ := hx2.set2 (.int .i64 0)
            have H3 := Lib.hid hx3
            have HB3 : Hid (Below w.heap.size w w') := Lib.hid (HB2.out.trans (Go.RowKit.Below.mono HG7.out HB2.out.size))
            have HON3 : Hid (ItemsOn ((w'.setRow c #[.slice LA LN LC]).setRow (c + 1) #[.int .i64 0]) (fun q => w.heap.size ≤ q) (.slice LA LN LC) l) := Lib.hid (by
              have h1 := HON.out.keep it_el (w' := w') HG7.out.size (fun q hq hlt => Go.RowKit.Below.block HG7.out q hlt)
              have h2 := h1.keep it_el (w' := (w'.setRow c #[.slice LA LN LC]).setRow (c + 1) #[.int .i64 0]) (by simp) (fun q hq _ => (setRow_other _ (c + 1) q _ (by omega)).trans (setRow_other w' c q _ (by omega)))
              exact h2.mono it_el (fun q _ hq => by have := HCG.out; omega))
            clear hx hx2 hx3 heq e6
            go_simp
            go_wp2_with fail
            refine leaves_cons (f := 26) (args := #[.pointer (some ⟨c, 0, none⟩), .pointer (some ⟨c + 1, 0, none⟩)]) (by simp) (by simp [go_sem]) ?_
            refine (defer_back _ _ _).mono ?_
            rintro e u' w4 ⟨rfl, rfl, rfl⟩
            refine ⟨_, res_read H3.out _ rfl rfl, below_row (below_row HB3.out (by have := HCG.out; omega) _) (by have := HCG.out; omega) _, ?_⟩
            rw [HD.out]
            exact ⟨_, rfl, HON3.out⟩
          · have HD : Hid (decP s = none) := Lib.hid (by rw [HDEC.out, decide_eq_false heq])
            have e6 : (!decide (lt = sh)) = true := by rw [decide_eq_false heq]; rfl
            rw [e6]
            clear e6 heq
            have hx : Res w' c _ _ := ⟨HG7.out.block HO2.out.1, HG7.out.block HO2.out.2⟩
            obtain ⟨a1, a2, a3, hx2⟩ := hx.set1 (.slice none 0 0)
            obtain ⟨b1, b2, b3, hx3⟩ := hx2.set2 (.int .i64 4)
            have H3 := Lib.hid hx3
            have HB3 : Hid (Below w.heap.size w w') := Lib.hid (HB2.out.trans (Go.RowKit.Below.mono HG7.out HB2.out.size))
            clear hx hx2 hx3
            go_simp
            go_wp2_with fail
            refine leaves_cons (f := 26) (args := #[.pointer (some ⟨c, 0, none⟩), .pointer (some ⟨c + 1, 0, none⟩)]) (by simp) (by simp [go_sem]) ?_
            refine (defer_back _ _ _).mono ?_
            rintro e u' w4 ⟨rfl, rfl, rfl⟩
            exact ⟨_, res_read H3.out _ rfl rfl, .no HD.out (below_row (below_row HB3.out (by have := HCG.out; omega) _) (by have := HCG.out; omega) _)⟩
      · have HCK : Hid (∀ W, Grow.Grows w3 W → Calls Try.prog 10 #[.slice LA LN LC] W fun e w' => e = .returned (.int .i64 1) ∧ Below W.heap.size W w') := Lib.hid (by have := HCA.out; rw [eno_no hck] at this; exact this)
        have HD : Hid (decP s = none) := Lib.hid (by
          unfold decP
          rw [if_pos ⟨HP.out, HL.out⟩, ← HTE.out, HI.out]
          simp only
          rw [pb_false hck]
          rfl)
        clear hck HCA
        refine Grow.wp_region_grow [fun v _ => v = .pointer (some ⟨g, 0, none⟩), fun v _ => v = .pointer (some ⟨g, 0, none⟩), fun v _ => v = .pointer (some ⟨g, 0, none⟩), fun v _ => v = .string ⟨r.toArray⟩, fun v _ => v = .bool false, fun v _ => v = .bool false, fun v _ => v = .slice LA LN LC, fun v _ => v = .int .i64 1, fun v _ => v = .bool true, fun v _ => v = .bool true, fun v _ => v = .bool true, fun v _ => v = undef, fun v _ => v = undef, fun v _ => v = undef, fun v _ => v = undef, fun v _ => v = undef, fun v _ => v = undef, fun v _ => v = undef, fun v _ => v = undef, fun v _ => v = undef, fun v _ => v = undef, fun v _ => v = undef, fun v _ => v = undef, fun v _ => v = undef, fun v _ => v = undef, fun v _ => v = .bool true]
          [[], [0], [1], [2], [3], [4], [5], [6, 5], [7, 5], [5, 8], [9], [10], [10], [12, 10], [13, 10], [11, 14, 10], [15, 10], [16, 10], [10], [10], [19, 10], [20, 10], [18, 21, 10], [22, 10], [17, 23, 10], [10, 24]] (by kernel_rfl) (by kernel_rfl) ?_ ?_ ?_
        · intro V hV
          have hst1 : ∀ x : Value, Grow.Stable (fun v _ => v = x) := fun x v w w' h _ => h
          simp only [List.mem_cons, List.not_mem_nil, or_false] at hV
          rcases hV with rfl | rfl | rfl | rfl | rfl | rfl | rfl | rfl | rfl | rfl | rfl | rfl | rfl | rfl | rfl | rfl | rfl | rfl | rfl | rfl | rfl | rfl | rfl | rfl | rfl | rfl
          all_goals first | exact hst1 _
        · skip
          refine .cons (fun u w' hR hF => ?_) ?_
          · skip
            refine Grow.gop_n rfl ?_
            go_simp
            exact Grow.Grows.refl _
          refine .cons (fun u w' hR hF => ?_) ?_
          · skip
            have f0 : u 0 = .pointer (some ⟨g, 0, none⟩) := hF.1
            refine Grow.gop_n rfl ?_
            go_simp
            exact Grow.Grows.refl _
          refine .cons (fun u w' hR hF => ?_) ?_
          · skip
            have f1 : u 1 = .pointer (some ⟨g, 0, none⟩) := hF.1
            refine Grow.gop_n rfl ?_
            go_simp
            exact Grow.Grows.refl _
          refine .cons (fun u w' hR hF => ?_) ?_
          · skip
            have f2 : u 2 = .pointer (some ⟨g, 0, none⟩) := hF.1
            refine Grow.gop_n rfl ?_
            have hc : w'.cell? ⟨g, 0, none⟩ = some (.string ⟨r.toArray⟩) := Rdr.cell (hR.block HR2.out)
            go_simp
            exact Grow.Grows.refl _
          refine .cons (fun u w' hR hF => ?_) ?_
          · skip
            have f3 : u 3 = .string ⟨r.toArray⟩ := hF.1
            refine Grow.gop_n rfl ?_
            go_simp
            exact ⟨Grow.Grows.refl _, HRE.out⟩
          refine .cons (fun u w' hR hF => ?_) ?_
          · skip
            have f4 : u 4 = .bool false := hF.1
            refine Grow.gop_n rfl ?_
            go_simp
            exact Grow.Grows.refl _
          refine .cons (fun u w' hR hF => ?_) ?_
          · skip
            have f5 : u 5 = .bool false := hF.1
            refine Grow.gop_y rfl (by simp [yielded, Grow.actL, Grow.dstOf, Act.put, f5]) ?_
            have hc := ((Res.set1 (show Res w' c _ _ from ⟨hR.block HO2.out.1, hR.block HO2.out.2⟩) .nilIface)).1
            go_simp
            exact Grow.Grows.refl _
          refine .cons (fun u w' hR hF => ?_) ?_
          · skip
            have f6 : u 6 = .slice LA LN LC := hF.1
            have f5 : u 5 = .bool false := hF.2.1
            refine Grow.gop_y rfl (by simp [yielded, Grow.actL, Grow.dstOf, Act.put, f5]) ?_
            go_simp
            exact (HCK.out w' hR).mono fun e w'' ⟨h1, h2⟩ => ⟨h1, h2⟩
          refine .cons (fun u w' hR hF => ?_) ?_
          · skip
            have f7 : u 7 = .int .i64 1 := hF.1
            have f5 : u 5 = .bool false := hF.2.1
            refine Grow.gop_y rfl (by simp [yielded, Grow.actL, Grow.dstOf, Act.put, f5]) ?_
            go_simp
            exact Grow.Grows.refl _
          refine .cons (fun u w' hR hF => ?_) ?_
          · skip
            have f5 : u 5 = .bool false := hF.1
            have f8 : u 8 = .bool true := hF.2.1
            refine Grow.gop_n rfl ?_
            go_simp
            exact Grow.Grows.refl _
          refine .cons (fun u w' hR hF => ?_) ?_
          · skip
            have f9 : u 9 = .bool true := hF.1
            refine Grow.gop_n rfl ?_
            go_simp
            exact Grow.Grows.refl _
          refine .cons (fun u w' hR hF => ?_) ?_
          · have f10 : u 10 = .bool true := hF.1
            exact Grow.gop_x rfl (by simp [yielded, Grow.actL, Grow.dstOf, Act.put, f10]) rfl
          refine .cons (fun u w' hR hF => ?_) ?_
          · have f10 : u 10 = .bool true := hF.1
            exact Grow.gop_x rfl (by simp [yielded, Grow.actL, Grow.dstOf, Act.put, f10]) rfl
          refine .cons (fun u w' hR hF => ?_) ?_
          · have f10 : u 10 = .bool true := hF.2.1
            exact Grow.gop_x rfl (by simp [yielded, Grow.actL, Grow.dstOf, Act.put, f10]) rfl
          refine .cons (fun u w' hR hF => ?_) ?_
          · have f10 : u 10 = .bool true := hF.2.1
            exact Grow.gop_x rfl (by simp [yielded, Grow.actL, Grow.dstOf, Act.put, f10]) rfl
          refine .cons (fun u w' hR hF => ?_) ?_
          · have f10 : u 10 = .bool true := hF.2.2.1
            exact Grow.gop_x rfl (by simp [yielded, Grow.actL, Grow.dstOf, Act.put, f10]) rfl
          refine .cons (fun u w' hR hF => ?_) ?_
          · have f10 : u 10 = .bool true := hF.2.1
            exact Grow.gop_x rfl (by simp [yielded, Grow.actL, Grow.dstOf, Act.put, f10]) rfl
          refine .cons (fun u w' hR hF => ?_) ?_
          · have f10 : u 10 = .bool true := hF.2.1
            exact Grow.gop_x rfl (by simp [yielded, Grow.actL, Grow.dstOf, Act.put, f10]) rfl
          refine .cons (fun u w' hR hF => ?_) ?_
          · have f10 : u 10 = .bool true := hF.1
            exact Grow.gop_x rfl (by simp [yielded, Grow.actL, Grow.dstOf, Act.put, f10]) rfl
          refine .cons (fun u w' hR hF => ?_) ?_
          · have f10 : u 10 = .bool true := hF.1
            exact Grow.gop_x rfl (by simp [yielded, Grow.actL, Grow.dstOf, Act.put, f10]) rfl
          refine .cons (fun u w' hR hF => ?_) ?_
          · have f10 : u 10 = .bool true := hF.2.1
            exact Grow.gop_x rfl (by simp [yielded, Grow.actL, Grow.dstOf, Act.put, f10]) rfl
          refine .cons (fun u w' hR hF => ?_) ?_
          · have f10 : u 10 = .bool true := hF.2.1
            exact Grow.gop_x rfl (by simp [yielded, Grow.actL, Grow.dstOf, Act.put, f10]) rfl
          refine .cons (fun u w' hR hF => ?_) ?_
          · have f10 : u 10 = .bool true := hF.2.2.1
            exact Grow.gop_x rfl (by simp [yielded, Grow.actL, Grow.dstOf, Act.put, f10]) rfl
          refine .cons (fun u w' hR hF => ?_) ?_
          · have f10 : u 10 = .bool true := hF.2.1
            exact Grow.gop_x rfl (by simp [yielded, Grow.actL, Grow.dstOf, Act.put, f10]) rfl
          refine .cons (fun u w' hR hF => ?_) ?_
          · have f10 : u 10 = .bool true := hF.2.2.1
            exact Grow.gop_x rfl (by simp [yielded, Grow.actL, Grow.dstOf, Act.put, f10]) rfl
          refine .cons (fun u w' hR hF => ?_) .nil
          · skip
            have f10 : u 10 = .bool true := hF.1
            have f24 : u 24 = undef := hF.2.1
            refine Grow.gop_n rfl ?_
            go_simp
            exact Grow.Grows.refl _
        · intro w' hR
          have HG7 := Lib.hid hR
          clear hR
          refine .cons (fun x0 f0 => ?_)
          refine .cons (fun x1 f1 => ?_)
          refine .cons (fun x2 f2 => ?_)
          refine .cons (fun x3 f3 => ?_)
          refine .cons (fun x4 f4 => ?_)
          refine .cons (fun x5 f5 => ?_)
          refine .cons (fun x6 f6 => ?_)
          refine .cons (fun x7 f7 => ?_)
          refine .cons (fun x8 f8 => ?_)
          refine .cons (fun x9 f9 => ?_)
          refine .cons (fun x10 f10 => ?_)
          refine .cons (fun x11 f11 => ?_)
          refine .cons (fun x12 f12 => ?_)
          refine .cons (fun x13 f13 => ?_)
          refine .cons (fun x14 f14 => ?_)
          refine .cons (fun x15 f15 => ?_)
          refine .cons (fun x16 f16 => ?_)
          refine .cons (fun x17 f17 => ?_)
          refine .cons (fun x18 f18 => ?_)
          refine .cons (fun x19 f19 => ?_)
          refine .cons (fun x20 f20 => ?_)
          refine .cons (fun x21 f21 => ?_)
          refine .cons (fun x22 f22 => ?_)
          refine .cons (fun x23 f23 => ?_)
          refine .cons (fun x24 f24 => ?_)
          refine .cons (fun x25 f25 => ?_)
          refine .nil ?_
          subst f0
          subst f1
          subst f2
          subst f3
          subst f4
          subst f5
          subst f6
          subst f7
          subst f8
          subst f9
          subst f10
          subst f11
          subst f12
          subst f13
          subst f14
          subst f15
          subst f16
          subst f17
          subst f18
          subst f19
          subst f20
          subst f21
          subst f22
          subst f23
          subst f24
          subst f25
          have hx : Res w' c _ _ := ⟨HG7.out.block HO2.out.1, HG7.out.block HO2.out.2⟩
          obtain ⟨a1, a2, a3, hx2⟩ := hx.set1 (.slice none 0 0)
          obtain ⟨b1, b2, b3, hx3⟩ := hx2.set2 (.int .i64 4)
          have H3 := Lib.hid hx3
          have HB3 : Hid (Below w.heap.size w w') := Lib.hid (HB2.out.trans (Go.RowKit.Below.mono HG7.out HB2.out.size))
          clear hx hx2 hx3
          go_simp
          go_wp2_with fail
          refine leaves_cons (f := 26) (args := #[.pointer (some ⟨c, 0, none⟩), .pointer (some ⟨c + 1, 0, none⟩)]) (by simp) (by simp [go_sem]) ?_
          refine (defer_back _ _ _).mono ?_
          rintro e u' w4 ⟨rfl, rfl, rfl⟩
          exact ⟨_, res_read H3.out _ rfl rfl, .no HD.out (below_row (below_row HB3.out (by have := HCG.out; omega) _) (by have := HCG.out; omega) _)⟩
    · have HD : Hid (decP s = none) := Lib.hid (by
        unfold decP
        rw [if_pos ⟨HP.out, HL.out⟩, ← HTE.out, HI.out]
        cases r with
        | nil => exact absurd rfl hr0
        | cons a b => rfl)
      refine Grow.wp_region_grow [fun v _ => v = .pointer (some ⟨g, 0, none⟩), fun v _ => v = .pointer (some ⟨g, 0, none⟩), fun v _ => v = .pointer (some ⟨g, 0, none⟩), fun v _ => v = .string ⟨r.toArray⟩, fun v _ => v = .bool true, fun v _ => v = .bool true, fun v _ => v = undef, fun v _ => v = undef, fun v _ => v = undef, fun v _ => v = .bool true, fun v _ => v = .bool true, fun v _ => v = undef, fun v _ => v = undef, fun v _ => v = undef, fun v _ => v = undef, fun v _ => v = undef, fun v _ => v = undef, fun v _ => v = undef, fun v _ => v = undef, fun v _ => v = undef, fun v _ => v = undef, fun v _ => v = undef, fun v _ => v = undef, fun v _ => v = undef, fun v _ => v = undef, fun v _ => v = .bool true]
        [[], [0], [1], [2], [3], [4], [5], [6, 5], [7, 5], [5, 8], [9], [10], [10], [12, 10], [13, 10], [11, 14, 10], [15, 10], [16, 10], [10], [10], [19, 10], [20, 10], [18, 21, 10], [22, 10], [17, 23, 10], [10, 24]] (by kernel_rfl) (by kernel_rfl) ?_ ?_ ?_
      · intro V hV
        have hst1 : ∀ x : Value, Grow.Stable (fun v _ => v = x) := fun x v w w' h _ => h
        simp only [List.mem_cons, List.not_mem_nil, or_false] at hV
        rcases hV with rfl | rfl | rfl | rfl | rfl | rfl | rfl | rfl | rfl | rfl | rfl | rfl | rfl | rfl | rfl | rfl | rfl | rfl | rfl | rfl | rfl | rfl | rfl | rfl | rfl | rfl
        all_goals first | exact hst1 _
      · skip
        refine .cons (fun u w' hR hF => ?_) ?_
        · skip
          refine Grow.gop_n rfl ?_
          go_simp
          exact Grow.Grows.refl _
        refine .cons (fun u w' hR hF => ?_) ?_
        · skip
          have f0 : u 0 = .pointer (some ⟨g, 0, none⟩) := hF.1
          refine Grow.gop_n rfl ?_
          go_simp
          exact Grow.Grows.refl _
        refine .cons (fun u w' hR hF => ?_) ?_
        · skip
          have f1 : u 1 = .pointer (some ⟨g, 0, none⟩) := hF.1
          refine Grow.gop_n rfl ?_
          go_simp
          exact Grow.Grows.refl _
        refine .cons (fun u w' hR hF => ?_) ?_
        · skip
          have f2 : u 2 = .pointer (some ⟨g, 0, none⟩) := hF.1
          refine Grow.gop_n rfl ?_
          have hc : w'.cell? ⟨g, 0, none⟩ = some (.string ⟨r.toArray⟩) := Rdr.cell (hR.block HR2.out)
          go_simp
          exact Grow.Grows.refl _
        refine .cons (fun u w' hR hF => ?_) ?_
        · skip
          have f3 : u 3 = .string ⟨r.toArray⟩ := hF.1
          refine Grow.gop_n rfl ?_
          go_simp
          exact Grow.Grows.refl _
        refine .cons (fun u w' hR hF => ?_) ?_
        · skip
          have f4 : u 4 = .bool true := hF.1
          refine Grow.gop_n rfl ?_
          go_simp
          exact Grow.Grows.refl _
        refine .cons (fun u w' hR hF => ?_) ?_
        · have f5 : u 5 = .bool true := hF.1
          exact Grow.gop_x rfl (by simp [yielded, Grow.actL, Grow.dstOf, Act.put, f5]) rfl
        refine .cons (fun u w' hR hF => ?_) ?_
        · have f5 : u 5 = .bool true := hF.2.1
          exact Grow.gop_x rfl (by simp [yielded, Grow.actL, Grow.dstOf, Act.put, f5]) rfl
        refine .cons (fun u w' hR hF => ?_) ?_
        · have f5 : u 5 = .bool true := hF.2.1
          exact Grow.gop_x rfl (by simp [yielded, Grow.actL, Grow.dstOf, Act.put, f5]) rfl
        refine .cons (fun u w' hR hF => ?_) ?_
        · skip
          have f5 : u 5 = .bool true := hF.1
          have f8 : u 8 = undef := hF.2.1
          refine Grow.gop_n rfl ?_
          go_simp
          exact Grow.Grows.refl _
        refine .cons (fun u w' hR hF => ?_) ?_
        · skip
          have f9 : u 9 = .bool true := hF.1
          refine Grow.gop_n rfl ?_
          go_simp
          exact Grow.Grows.refl _
        refine .cons (fun u w' hR hF => ?_) ?_
        · have f10 : u 10 = .bool true := hF.1
          exact Grow.gop_x rfl (by simp [yielded, Grow.actL, Grow.dstOf, Act.put, f10]) rfl
        refine .cons (fun u w' hR hF => ?_) ?_
        · have f10 : u 10 = .bool true := hF.1
          exact Grow.gop_x rfl (by simp [yielded, Grow.actL, Grow.dstOf, Act.put, f10]) rfl
        refine .cons (fun u w' hR hF => ?_) ?_
        · have f10 : u 10 = .bool true := hF.2.1
          exact Grow.gop_x rfl (by simp [yielded, Grow.actL, Grow.dstOf, Act.put, f10]) rfl
        refine .cons (fun u w' hR hF => ?_) ?_
        · have f10 : u 10 = .bool true := hF.2.1
          exact Grow.gop_x rfl (by simp [yielded, Grow.actL, Grow.dstOf, Act.put, f10]) rfl
        refine .cons (fun u w' hR hF => ?_) ?_
        · have f10 : u 10 = .bool true := hF.2.2.1
          exact Grow.gop_x rfl (by simp [yielded, Grow.actL, Grow.dstOf, Act.put, f10]) rfl
        refine .cons (fun u w' hR hF => ?_) ?_
        · have f10 : u 10 = .bool true := hF.2.1
          exact Grow.gop_x rfl (by simp [yielded, Grow.actL, Grow.dstOf, Act.put, f10]) rfl
        refine .cons (fun u w' hR hF => ?_) ?_
        · have f10 : u 10 = .bool true := hF.2.1
          exact Grow.gop_x rfl (by simp [yielded, Grow.actL, Grow.dstOf, Act.put, f10]) rfl
        refine .cons (fun u w' hR hF => ?_) ?_
        · have f10 : u 10 = .bool true := hF.1
          exact Grow.gop_x rfl (by simp [yielded, Grow.actL, Grow.dstOf, Act.put, f10]) rfl
        refine .cons (fun u w' hR hF => ?_) ?_
        · have f10 : u 10 = .bool true := hF.1
          exact Grow.gop_x rfl (by simp [yielded, Grow.actL, Grow.dstOf, Act.put, f10]) rfl
        refine .cons (fun u w' hR hF => ?_) ?_
        · have f10 : u 10 = .bool true := hF.2.1
          exact Grow.gop_x rfl (by simp [yielded, Grow.actL, Grow.dstOf, Act.put, f10]) rfl
        refine .cons (fun u w' hR hF => ?_) ?_
        · have f10 : u 10 = .bool true := hF.2.1
          exact Grow.gop_x rfl (by simp [yielded, Grow.actL, Grow.dstOf, Act.put, f10]) rfl
        refine .cons (fun u w' hR hF => ?_) ?_
        · have f10 : u 10 = .bool true := hF.2.2.1
          exact Grow.gop_x rfl (by simp [yielded, Grow.actL, Grow.dstOf, Act.put, f10]) rfl
        refine .cons (fun u w' hR hF => ?_) ?_
        · have f10 : u 10 = .bool true := hF.2.1
          exact Grow.gop_x rfl (by simp [yielded, Grow.actL, Grow.dstOf, Act.put, f10]) rfl
        refine .cons (fun u w' hR hF => ?_) ?_
        · have f10 : u 10 = .bool true := hF.2.2.1
          exact Grow.gop_x rfl (by simp [yielded, Grow.actL, Grow.dstOf, Act.put, f10]) rfl
        refine .cons (fun u w' hR hF => ?_) .nil
        · skip
          have f10 : u 10 = .bool true := hF.1
          have f24 : u 24 = undef := hF.2.1
          refine Grow.gop_n rfl ?_
          go_simp
          exact Grow.Grows.refl _
      · intro w' hR
        have HG7 := Lib.hid hR
        clear hR
        refine .cons (fun x0 f0 => ?_)
        refine .cons (fun x1 f1 => ?_)
        refine .cons (fun x2 f2 => ?_)
        refine .cons (fun x3 f3 => ?_)
        refine .cons (fun x4 f4 => ?_)
        refine .cons (fun x5 f5 => ?_)
        refine .cons (fun x6 f6 => ?_)
        refine .cons (fun x7 f7 => ?_)
        refine .cons (fun x8 f8 => ?_)
        refine .cons (fun x9 f9 => ?_)
        refine .cons (fun x10 f10 => ?_)
        refine .cons (fun x11 f11 => ?_)
        refine .cons (fun x12 f12 => ?_)
        refine .cons (fun x13 f13 => ?_)
        refine .cons (fun x14 f14 => ?_)
        refine .cons (fun x15 f15 => ?_)
        refine .cons (fun x16 f16 => ?_)
        refine .cons (fun x17 f17 => ?_)
        refine .cons (fun x18 f18 => ?_)
        refine .cons (fun x19 f19 => ?_)
        refine .cons (fun x20 f20 => ?_)
        refine .cons (fun x21 f21 => ?_)
        refine .cons (fun x22 f22 => ?_)
        refine .cons (fun x23 f23 => ?_)
        refine .cons (fun x24 f24 => ?_)
        refine .cons (fun x25 f25 => ?_)
        refine .nil ?_
        subst f0
        subst f1
        subst f2
        subst f3
        subst f4
        subst f5
        subst f6
        subst f7
        subst f8
        subst f9
        subst f10
        subst f11
        subst f12
        subst f13
        subst f14
        subst f15
        subst f16
        subst f17
        subst f18
        subst f19
        subst f20
        subst f21
        subst f22
        subst f23
        subst f24
        subst f25
        have hx : Res w' c _ _ := ⟨HG7.out.block HO2.out.1, HG7.out.block HO2.out.2⟩
        obtain ⟨a1, a2, a3, hx2⟩ := hx.set1 (.slice none 0 0)
        obtain ⟨b1, b2, b3, hx3⟩ := hx2.set2 (.int .i64 4)
        have H3 := Lib.hid hx3
        have HB3 : Hid (Below w.heap.size w w') := Lib.hid (HB2.out.trans (Go.RowKit.Below.mono HG7.out HB2.out.size))
        clear hx hx2 hx3
        go_simp
        go_wp2_with fail
        refine leaves_cons (f := 26) (args := #[.pointer (some ⟨c, 0, none⟩), .pointer (some ⟨c + 1, 0, none⟩)]) (by simp) (by simp [go_sem]) ?_
        refine (defer_back _ _ _).mono ?_
        rintro e u' w4 ⟨rfl, rfl, rfl⟩
        exact ⟨_, res_read H3.out _ rfl rfl, .no HD.out (below_row (below_row HB3.out (by have := HCG.out; omega) _) (by have := HCG.out; omega) _)⟩
/-- **Decode**, of any bytes -/
theorem decode_any (s : List UInt8) (w : World) (hs : s.length ≤ 549755813888) : Calls Try.prog 14 #[.string ⟨s.toArray⟩] w (DecOut w s) := by
  cases hp : Lib.hasPrefix s magicB with
  | false => exact dec_short s w (.inl hp)
  | true =>
    by_cases hl : 19 ≤ s.length
    · exact dec_long s w hp hl hs
    · exact dec_short s w (.inr (by omega))
end Go.Proofs.Ytpnmhldaaaemeaa.Snp
/- Chapter 24: some answers that the document fixes. -/
namespace Go.Proofs.Ytpnmhldaaaemeaa.Snp
open Go.RowKit Go.Proofs.Ytpnmhldaaaemeaa.Pin
abbrev itK : It := ⟨2, ⟨#[107]⟩, { va0 with kind := 1, text := ⟨#[97, 98]⟩ }, 5⟩
abbrev itN : It := ⟨0, ⟨#[107]⟩, va0, 0⟩
abbrev wantB : List UInt8 := [115, 116, 105, 108, 108, 114, 111, 111, 109, 49, 1, 2, 5, 0, 0, 0, 0, 0, 0, 0, 1, 0, 0, 0, 107, 1, 2, 0, 0, 0, 97, 98, 0]
theorem check_nil : CheckP [] := fun _ h => absurd h (Nat.not_lt_zero _)
theorem check_one {it : It} : CheckP [it] ↔ FineP it := by
  constructor
  · intro h
    exact (h 0 (by simp) (by simp)).1
  · intro h j hj _
    obtain rfl : j = 0 := by simpa using hj
    exact ⟨h, fun h0 => absurd h0 (Nat.lt_irrefl _)⟩
theorem fine_k : FineP itK := by
  refine ⟨by decide, ?_, by decide, by decide, ?_, ?_⟩
  · unfold MayP; decide
  · unfold PlainP; decide
  · unfold KindP; simp [MayP]; decide
theorem fine_n : ¬ FineP itN := fun h => by have := h.2.2.2.1.1; exact absurd this (by decide)
theorem body_nil : bodyB [] = magicB ++ [0] := rfl
theorem body_k : bodyB [itK] = wantB := by decide
theorem va0_b : VaB va0 := ⟨by decide, by decide, by decide, by decide, by decide, by decide, by decide, (by intro e h; cases h), (by intro e h; cases h), by decide⟩
theorem vak_b : VaB itK.val := ⟨by decide, by decide, by decide, by decide, by decide, by decide, by decide, (by intro e h; cases h), (by intro e h; cases h), by decide⟩
theorem items_nil (w : World) (B : Nat) : ItemsAt w B (.slice none 0 0) [] := ⟨none, 0, rfl, fun h => absurd h (Nat.lt_irrefl _)⟩
abbrev clN : Cl := ⟨nilS, nilS, nilS, nilS, nilS⟩
theorem val_nil {v : Va} (w : World) (B : Nat) (h1 : v.list = []) (h2 : v.hash = []) (h3 : v.set = []) (h4 : v.zset = []) (h5 : v.stream = []) : ValAt w B clN v := by
  refine ⟨?_, ?_, ?_, ?_, ?_⟩
  all_goals simp only [h1, h2, h3, h4, h5]
  all_goals exact ⟨none, 0, rfl, fun h => absurd h (Nat.lt_irrefl _)⟩
theorem box_one {w W : World} {it : It} {c : Cl} {b : Nat} (hv : ValAt w w.heap.size c it.val) (hW : Below w.heap.size w W) (hb : W.heap[b]? = some (iO it c)) :
    ItemsAt W W.heap.size (.slice (some ⟨b, 0, none⟩) 1 1) [it] := by
  refine ⟨_, 1, rfl, fun _ => ⟨b, 0, rfl, (Array.getElem?_eq_some_iff.1 hb).1, fun j hj => ⟨c, ?_, ?_⟩⟩⟩
  · obtain rfl : j = 0 := by simpa using hj
    intro i u hi
    rw [Lib.cell_of_heap hb]
    simpa [icells] using hi
  · obtain rfl : j = 0 := by simpa using hj
    exact (hv.below hW).more hW.size
theorem box_new {w : World} {it : It} {c : Cl} (hv : ValAt w w.heap.size c it.val) : ItemsAt (w.alloc (iO it c)) (w.alloc (iO it c)).heap.size (.slice (some ⟨w.heap.size, 0, none⟩) 1 1) [it] :=
  box_one hv ((Below.refl _ w).alloc (Nat.le_refl _) _) (heap_alloc_new w _)
theorem take_app_left {a b : List UInt8} {n : Nat} (h : n = a.length) : (a ++ b).take n = a := by rw [h, List.take_left]
set_option maxHeartbeats 4000000 in
set_option maxRecDepth 100000 in
theorem alive_any (w : World) : Calls Try.prog 12 #[] w fun e w' => e = .returned (.bool true) ∧ Below w.heap.size w w' := by
  have HE0 := Lib.hid (enc_yes [] (.slice none 0 0) w (items_nil w _) (by simp) (by intro x h; cases h) (by intro x h; cases h) (by simp only [encB, body_nil, List.length_append, leB_len]; decide) check_nil)
  obtain ⟨b0, hb0⟩ : ∃ b0, b0 = encB [] := ⟨_, rfl⟩
  have q1 : ByteArray.size ⟨b0.toArray⟩ = 19 := by rw [size_of, hb0, encB, body_nil, List.length_append, List.length_append, leB_len]; rfl
  have q2 : (⟨b0.toArray⟩ : ByteArray).extract 0 11 = ⟨#[115, 116, 105, 108, 108, 114, 111, 111, 109, 49, 0]⟩ := by rw [ext_take, hb0, encB, body_nil, take_app_left (a := magicB ++ [0]) (n := 11) rfl]; rfl
  obtain ⟨b1, hb1⟩ : ∃ b1, b1 = encB [itK] := ⟨_, rfl⟩
  have q3 : ByteArray.size ⟨b1.toArray⟩ = 41 := by rw [size_of, hb1, encB, body_k, List.length_append, leB_len]; rfl
  have q4 : (⟨b1.toArray⟩ : ByteArray).extract 0 33 = ⟨#[115, 116, 105, 108, 108, 114, 111, 111, 109, 49, 1, 2, 5, 0, 0, 0, 0, 0, 0, 0, 1, 0, 0, 0, 107, 1, 2, 0, 0, 0, 97, 98, 0]⟩ := by rw [ext_take, hb1, encB, body_k, take_app_left (a := wantB) (n := 33) rfl]
  have HE1 : Hid (∀ W : World, Calls Try.prog 13 #[.slice (some ⟨W.heap.size, 0, none⟩) 1 1] (W.alloc (iO itK clN)) fun e w' => e = .returned (.tuple #[.string ⟨b1.toArray⟩, .int .i64 0]) ∧ Below (W.alloc (iO itK clN)).heap.size (W.alloc (iO itK clN)) w') := Lib.hid (fun W => by
    rw [hb1]
    refine enc_yes [itK] _ _ (box_new (val_nil W _ rfl rfl rfl rfl rfl)) (by simp) ?_ ?_ ?_ (check_one.2 fine_k)
    · intro x h; obtain rfl := List.mem_singleton.1 h; exact vak_b
    · intro x h; obtain rfl := List.mem_singleton.1 h; intro e h; cases h
    · simp only [encB, body_k, List.length_append, leB_len]; decide)
  have HC1 : Hid (∀ W : World, Calls Try.prog 10 #[.slice (some ⟨W.heap.size, 0, none⟩) 1 1] (W.alloc (iO itN clN)) fun e w' => e = .returned (.int .i64 1) ∧ Below (W.alloc (iO itN clN)).heap.size (W.alloc (iO itN clN)) w') := Lib.hid (fun W => by
    have h := check_any [itN] _ _ (box_new (it := itN) (c := clN) (val_nil W _ rfl rfl rfl rfl rfl)) (by simp) (by intro x h; obtain rfl := List.mem_singleton.1 h; exact va0_b)
    rw [eno_no (fun h => fine_n (check_one.1 h))] at h
    exact h)
  have HD0 : Hid (∀ W : World, Calls Try.prog 14 #[.string ⟨#[]⟩] W fun e w' => e = .returned (.tuple #[.slice none 0 0, .int .i64 4]) ∧ Below W.heap.size W w') := Lib.hid (fun W =>
    (decode_any [] W (by simp)).mono fun e w' ⟨h1, h2⟩ => by
      rw [short_none (.inr (by simp))] at h2
      exact ⟨h2, h1⟩)
  rw [← hb0] at HE0
  clear hb0 hb1
  go_enter Try.func12, Try.ntmps12
  go_wp2_with fail
  refine HE0.out.mono ?_
  rintro e w1 ⟨rfl, h1⟩
  have HB1 := Lib.hid h1
  clear h1
  go_wp2_with fail
  refine (HE1.out _).mono ?_
  rintro e w2 ⟨rfl, h2⟩
  have HB2 := Lib.hid (HB1.out.trans (((Below.refl _ w1).alloc HB1.out.size _).trans (h2.mono (by have := HB1.out.size; simp; omega))))
  clear h2
  go_wp2_with fail
  refine (HD0.out _).mono ?_
  rintro e w3 ⟨rfl, h3⟩
  have HB3 := Lib.hid (HB2.out.trans (h3.mono HB2.out.size))
  clear h3
  go_wp2_with fail
  refine (HC1.out _).mono ?_
  rintro e w4 ⟨rfl, h4⟩
  have HB4 := Lib.hid (HB3.out.trans (((Below.refl _ w3).alloc HB3.out.size _).trans (h4.mono (by have := HB3.out.size; simp; omega))))
  clear h4
  go_wp2_with fail
  go_ret
  exact ⟨rfl, HB4.out⟩
end Go.Proofs.Ytpnmhldaaaemeaa.Snp
