/- Chapter 09: Between. -/
import Derived.Test.YtmlaackdcnpjmaaDoorAt09
import Derived.Test.YtmlaackdcnpjmaaDoorOwn09
import Derived.OwnWalk
namespace Go.Proofs.YtmlaackdcnpjmaaDoor.Skp
open Go Go.RowKit Go.Proofs.YtmlaackdcnpjmaaDoor.Pin Go.Proofs.YtmlaackdcnpjmaaDoor.Flt
/-- members of scores from lo on -/
def loB (lo : Nat) (without : Bool) (m : Sc) : Bool := fLt m.2 lo || (without && fEq m.2 lo)
def hiB (hi : Nat) (within : Bool) (m : Sc) : Bool := fLt m.2 hi || (!within && fEq m.2 hi)
theorem btw1_any (lo : Nat) (without : Bool) (x : Sc) (b c : Nat) (w : World) (h0 : w.cell? ⟨b, 0, none⟩ = some (.float .f64 lo)) (h1 : w.cell? ⟨c, 0, none⟩ = some (.bool without)) :
    Calls Tryd.prog 29 #[scV x, .pointer (some ⟨b, 0, none⟩), .pointer (some ⟨c, 0, none⟩)] w fun e w' => e = .returned (.bool (loB lo without x)) ∧ Below w.heap.size w w' := by
  have hb : b < w.heap.size := World.block_lt_of_cell? w ⟨b, 0, none⟩ h0
  have hc : c < w.heap.size := World.block_lt_of_cell? w ⟨c, 0, none⟩ h1
  obtain ⟨nm, sc⟩ := x
  have HL := Lib.hid (fun w => nless_any sc lo w)
  have HB := Lib.hid ((Below.refl w.heap.size w).alloc (Nat.le_refl _) (.cells #[.string nm, .float .f64 sc] 31))
  cases h : fLt sc lo with
  | true =>
    have e : loB lo without (nm, sc) = true := by unfold loB; rw [h]; rfl
    rw [e]
    rw [h] at HL
    clear e h
    go_enter Tryd.func29, Tryd.ntmps29
    go_wp2_with fail
    refine (HL.out _).mono ?_
    rintro e w' ⟨rfl, rfl⟩
    go_wp2_with fail
    go_ret
    exact ⟨rfl, HB.out⟩
  | false =>
    rw [h] at HL
    cases without with
    | false =>
      have e : loB lo false (nm, sc) = false := by unfold loB; rw [h]; rfl
      rw [e]
      clear e h
      go_enter Tryd.func29, Tryd.ntmps29
      go_wp2_with fail
      refine (HL.out _).mono ?_
      rintro e w' ⟨rfl, rfl⟩
      go_wp2_with fail
      go_ret
      exact ⟨rfl, HB.out⟩
    | true =>
      have e : loB lo true (nm, sc) = fEq sc lo := by unfold loB; rw [h]; rfl
      rw [e]
      clear e h
      cases h2 : fEq sc lo with
      | true =>
        have h2' : (FloatKind.f64.format.order sc lo == some Ordering.eq) = true := h2
        clear h2
        go_enter Tryd.func29, Tryd.ntmps29
        go_wp2_with fail
        refine (HL.out _).mono ?_
        rintro e w' ⟨rfl, rfl⟩
        go_wp2_with fail
        go_ret
        exact ⟨rfl, HB.out⟩
      | false =>
        have h2' : (FloatKind.f64.format.order sc lo == some Ordering.eq) = false := h2
        clear h2
        go_enter Tryd.func29, Tryd.ntmps29
        go_wp2_with fail
        refine (HL.out _).mono ?_
        rintro e w' ⟨rfl, rfl⟩
        go_wp2_with fail
        go_ret
        exact ⟨rfl, HB.out⟩
/-- the members from position P + 1 up to ahead of position p -/
def seg (mem : Nat → Sc) (P p : Nat) : List Sc := (List.range (p - 1 - P)).map fun i => mem (P + 1 + i)
theorem seg_nil (mem : Nat → Sc) (P : Nat) : seg mem P (P + 1) = [] := by unfold seg; simp
theorem seg_succ (mem : Nat → Sc) {P p : Nat} (h : P < p) : seg mem P (p + 1) = seg mem P p ++ [mem p] := by
  unfold seg
  rw [show p + 1 - 1 - P = (p - 1 - P) + 1 by omega, List.range_succ, List.map_append]
  simp only [List.map_cons, List.map_nil]
  rw [show P + 1 + (p - 1 - P) = p by omega]
def nx (bl : Nat → Nat) (n p : Nat) : Option Addr := if p ≤ n then some ⟨bl p, 0, none⟩ else none
abbrev ElS : World → (Nat → Prop) → Sc → List Value → Prop := Flat fun m : Sc => [Value.string m.1, .float .f64 m.2]
/-- members in memory of their own -/
abbrev Mems (w : World) (ok : Nat → Prop) (v : Value) (l : List Sc) : Prop := LOn 2 ElS w ok v l
theorem new_cells (w : World) (cs : List Value) (T : TypeId) : ∀ j u, cs[j]? = some u → (w.alloc (.cells cs.toArray T)).cell? ((⟨w.heap.size, 0, none⟩ : Addr).add j) = some u := by
  intro j u hu
  have hadd : (⟨w.heap.size, 0, none⟩ : Addr).add j = ⟨w.heap.size, j, none⟩ := by unfold Addr.add; split <;> simp_all
  rw [hadd, Lib.cell_of_heap (heap_alloc_new w _)]
  simpa using hu
theorem info_scoreds : (Tryd.prog.info? 31).map (fun i => (i.zero, i.size, i.bytes)) = some (some (.agg #[.string ⟨#[]⟩, .float .f64 0]), 2, 24) := by kernel_rfl
theorem Acc.below {w w' : World} {out : Value} {ls : List Sc} {B : Nat} (h : Acc 31 2 ElS B w out ls) (hb : Below w.heap.size w w') : Acc 31 2 ElS B w' out ls := by
  obtain ⟨css, h1, h2, h3⟩ := h
  refine ⟨css, h1, ⟨h2.1, ?_⟩, fun j hj hj' => ⟨(h3 j hj hj').1, (flat_el _).keep w w' _ _ _ (h3 j hj hj').2 hb.size (fun r _ hr => hb.block r hr)⟩⟩
  rcases h2.2 with ⟨e, e'⟩ | ⟨q, cap, cur, e, a1, a2, a3⟩
  · exact .inl ⟨e, e'⟩
  · exact .inr ⟨q, cap, cur, e, a1, (hb.block q (Array.getElem?_eq_some_iff.1 a2).1).trans a2, a3⟩
def lenV : Value → Nat
  | .slice _ k _ => k
  | _ => 0
theorem nx_of {w : World} {own : Nat → Prop} {s seed n : Nat} {bl ht : Nat → Nat} {mem : Nat → Sc} (hS : Sk w own s seed n bl ht mem) {p : Nat} {to : Option Addr} {sp : Int} (h : LnkV n bl ht 0 p to sp) : to = nx bl n (p + 1) := by
  rcases h with ⟨q, b1, b2, b3, b4, rfl, _⟩ | ⟨b1, rfl⟩
  · obtain rfl : q = p + 1 := by
      rcases Nat.lt_or_ge (p + 1) q with k | k
      · have := b4 (p + 1) (by omega) k; have := (hS.htb (p + 1) (by omega)).1; omega
      · omega
    unfold nx
    rw [if_pos b2]
  · unfold nx
    rw [if_neg (fun k => by have := b1 (p + 1) (by omega) k; have := (hS.htb (p + 1) k).1; omega)]
theorem seg_end {mem : Nat → Sc} {P Q p : Nat} (hr : ∀ r, P < r → r < p → r ≤ Q) (hq : Q < p) (hp : P < p) : seg mem P (max P Q + 1) = seg mem P p := by
  have : max P Q + 1 = p := by
    by_cases h : p = P + 1
    · omega
    · have := hr (p - 1) (by omega) (by omega); omega
  rw [this]
set_option maxHeartbeats 2000000 in
set_option maxRecDepth 100000 in
theorem btw_yes {own : Nat → Prop} {s seed n : Nat} {bl ht : Nat → Nat} {mem : Nat → Sc} (lo hi : Nat) (without within : Bool) (P Q : Nat) (hlo : fEq lo lo = true) (hhi : fEq hi hi = true) (w : World) (hS : Sk w own s seed n bl ht mem) (hP : P ≤ n) (hQ : Q ≤ n)
    (hp : ∀ p, 0 < p → p ≤ n → (loB lo without (mem p) = true ↔ p ≤ P)) (hq : ∀ p, 0 < p → p ≤ n → (hiB hi within (mem p) = true ↔ p ≤ Q)) :
    Calls Tryd.prog 15 #[.pointer (some ⟨s, 0, none⟩), .float .f64 lo, .float .f64 hi, .bool without, .bool within] w fun e w' => (∃ v, e = .returned v ∧ Mems w' (fun r => w.heap.size ≤ r) v (seg mem P (max P Q + 1))) ∧ Below w.heap.size w w' := by
  have HS := Lib.hid hS
  have HP := Lib.hid hP
  have HQ := Lib.hid hQ
  have HHI := Lib.hid hq
  have HG := Lib.hid (fun W (hW : Below w.heap.size w W) => gone_no s (bl 0) W (hS.below hW).head)
  have HN1 := Lib.hid (fun W => nan_any lo W)
  have HN2 := Lib.hid (fun W => nan_any hi W)
  rw [hlo] at HN1
  rw [hhi] at HN2
  have HWK : Hid (∀ W b c, Below w.heap.size w W → W.cell? ⟨b, 0, none⟩ = some (.float .f64 lo) → W.cell? ⟨c, 0, none⟩ = some (.bool without) → Calls Tryd.prog 28 #[.pointer (some ⟨s, 0, none⟩), .func (.func 29) #[] #[.pointer (some ⟨b, 0, none⟩), .pointer (some ⟨c, 0, none⟩)]] W fun e w' => (∃ A K, e = .returned (.tuple #[.agg A, .agg K]) ∧ Ways A K bl ht P 0) ∧ Below W.heap.size W w') := Lib.hid (fun W b c hW h0 h1 =>
    walk_any 29 #[.pointer (some ⟨b, 0, none⟩), .pointer (some ⟨c, 0, none⟩)] (loB lo without) P W (hS.below hW) hP hp (fun W m => by kernel_rfl) (fun W' x hW' => btw1_any lo without x b c W' ((hW'.cell (p := ⟨b, 0, none⟩) (World.block_lt_of_cell? W ⟨b, 0, none⟩ h0)).trans h0) ((hW'.cell (p := ⟨c, 0, none⟩) (World.block_lt_of_cell? W ⟨c, 0, none⟩ h1)).trans h1)))
  have HB0 := Lib.hid (below_two (Below.refl w.heap.size w) (Nat.le_refl _) (.cells #[.float .f64 lo] 29) (.cells #[.bool without] 4))
  clear hS hP hQ hp hq hlo hhi
  go_enter Tryd.func15, Tryd.ntmps15
  go_wp2_with fail
  refine (HG.out _ HB0.out).mono ?_
  rintro e w' ⟨rfl, rfl⟩
  go_wp2_with fail
  refine (HN1.out _).mono ?_
  rintro e w' ⟨rfl, rfl⟩
  go_wp2_with fail
  refine (HN2.out _).mono ?_
  rintro e w' ⟨rfl, rfl⟩
  go_wp2_with fail
  refine (HWK.out _ w.heap.size (w.heap.size + 1) HB0.out (by rw [Lib.cell_of_heap (two_new w _ _).1]; rfl) (by rw [Lib.cell_of_heap (two_new w _ _).2]; rfl)).mono ?_
  rintro e w1 ⟨⟨A, K, rfl, hW⟩, hb1⟩
  have HB1 := Lib.hid (HB0.out.trans (hb1.mono HB0.out.size))
  have HW := Lib.hid hW
  have HAS := Lib.hid hW.1
  have HKS := Lib.hid hW.2.1
  have HOA := Lib.hid hW.oneA
  have HOK := Lib.hid hW.oneK
  clear hb1 hW
  obtain ⟨i0, hi0, hz0, hz1, hz2⟩ := info_parts info_scoreds
  have HI := Lib.hid hi0
  have HZ0 := Lib.hid hz0
  have HZ1 := Lib.hid hz1
  have HZ2 := Lib.hid hz2
  obtain ⟨a, hla, ha0, _⟩ := HW.out.2.2 0 (Nat.le_refl _) (by omega)
  obtain rfl : a = P := lst_low (fun p hp => (HS.out.htb p (Nat.le_trans hp HP.out)).1) hla
  have HA0 := Lib.hid ha0
  have HNX : Hid (∀ p, p ≤ n → ∀ W, Below w.heap.size w W → W.cell? ⟨bl p, 3, none⟩ = some (.pointer (nx bl n (p + 1)))) := Lib.hid (fun p hp W hW => by
    obtain ⟨to, sp, c1, _, hlv⟩ := (HS.out.lvl 0 (by omega) p hp (HS.out.htb p hp).1).vals
    rw [← nx_of HS.out hlv]
    exact (hW.cell (p := ⟨bl p, _, none⟩) (HS.out.lt hp)).trans c1)
  clear hi0 hz0 hz1 hz2 hla ha0
  go_wp2_with (first | (refine wpList_store_into rfl 65 (.tmp 11) (.tmp 29) (by rfl) w1.heap.size A (by rfl) (by rfl) 65 _ (two_new w1 _ _).1 (by rw [HAS.out]; exact info_nodes) (by rw [HAS.out]; rfl) HOA.out ?_; intro W1 hI1) | (refine wpList_store_into rfl 66 (.tmp 12) (.tmp 30) (by rfl) (w1.heap.size + 1) K (by rfl) (by rfl) 66 _ ((hI1.other _ (by omega)).trans (two_new w1 _ _).2) (by rw [HKS.out]; exact info_ints) (by rw [HKS.out]; rfl) HOK.out ?_; intro W2 hI2; have HB2 := Lib.hid (hI2.below (hI1.below (below_two HB1.out HB1.out.size _ _) HB1.out.size) (by have := HB1.out.size; omega)); have a0 : W2.cell? ⟨w1.heap.size, 0, none⟩ = some (.pointer (some ⟨bl a, 0, none⟩)) := (by rw [Lib.cell_of_heap ((hI2.other _ (by omega)).trans hI1.at_)]; exact HA0.out); have d0 : W2.cell? ⟨bl a, 3, none⟩ = some (.pointer (nx bl n (a + 1))) := HNX.out a HP.out W2 HB2.out; clear hI1 hI2))
  go_loopw [13, 14] (fun out x wr => ∃ p : Nat, a < p ∧ p ≤ n + 1 ∧ x = .pointer (nx bl n p) ∧ Hid (∀ r, a < r → r < p → r ≤ Q) ∧ Hid (Acc 31 2 ElS w.heap.size wr out (seg mem a p)) ∧ Hid (Below w.heap.size w wr)) (fun out _ _ => n - lenV out)
  case atStart =>
    exact ⟨a + 1, by omega, by have := HP.out; omega, rfl, Lib.hid (fun r r1 r2 => by omega), Lib.hid (by rw [seg_nil]; exact acc_nil _), HB2⟩
  case round =>
    obtain ⟨p, hap, hpn, rfl, HR, HA, HBe⟩ := hrel
    obtain ⟨A1, c1', rfl⟩ := HA.out.slice
    clear a0 d0 HB2
    have HPp := Lib.hid hap
    by_cases hp : p ≤ n
    · have hx : nx bl n p = some ⟨bl p, 0, none⟩ := by unfold nx; rw [if_pos hp]
      have hm := HS.out.mbr p (by omega) hp
      have hm0 : wr.cell? ⟨bl p, 0, none⟩ = some (.string (mem p).1) := (HBe.out.cell (p := ⟨bl p, _, none⟩) (HS.out.lt hp)).trans hm.1
      have hm1 : wr.cell? ⟨bl p, 1, none⟩ = some (.float .f64 (mem p).2) := (HBe.out.cell (p := ⟨bl p, _, none⟩) (HS.out.lt hp)).trans hm.2
      have HL := Lib.hid (nless_any (mem p).2 hi wr)
      have HQP := Lib.hid (HHI.out p (by omega) hp)
      obtain ⟨css, c1, c2, c3⟩ := HA.out
      have HC2 := Lib.hid (c2.alloc (.cells #[.string (mem p).1, .float .f64 (mem p).2] 31))
      have HOL : Hid (∀ q, (Value.slice A1 (seg mem a p).length c1').ownBlock = some q → q < wr.heap.size) := Lib.hid (fun q hq => (c2.lt q hq).2)
      have HOB : Hid (∀ q, (Value.slice A1 (seg mem a p).length c1').ownBlock = some q → w.heap.size ≤ q) := Lib.hid (fun q hq => (c2.lt q hq).1)
      have HBB : Hid (w.heap.size ≤ (wr.alloc (.cells #[.string (mem p).1, .float .f64 (mem p).2] 31)).heap.size) := Lib.hid (by have := HBe.out.size; simp; omega)
      have HL0 : Hid ((seg mem a p).length = p - 1 - a) := Lib.hid (by unfold seg; simp)
      have HLE : Hid ((seg mem a p).length ≤ n) := Lib.hid (by rw [HL0.out]; omega)
      have HNX := Lib.hid (HNX.out p hp)
      have HC3 := Lib.hid c3
      have HC1 := Lib.hid c1
      rw [hx]
      clear hm c2 c3 c1 hx
      cases h1 : fLt (mem p).2 hi with
      | true =>
        have HPQ : Hid (p ≤ Q) := Lib.hid (HQP.out.1 (by unfold hiB; rw [h1]; rfl))
        rw [h1] at HL
        clear h1 HQP
        go_wp2_with fail
        refine HL.out.mono ?_
        rintro e w' ⟨rfl, rfl⟩
        go_wp2_with (at_builtin; refine wpList_append_row _ rfl _ _ 23 rfl w.heap.size 31 i0 (.agg #[.string ⟨#[]⟩, .float .f64 0]) 2 24 Tryd.underlying23 HI.out HZ0.out HZ1.out HZ2.out rfl (by decide) _ _ _ rfl HC2.out ⟨wr.heap.size, 0, none⟩ 1 1 [.string (mem p).1, .float .f64 (mem p).2] rfl rfl Nat.one_pos ?c1 ?c2 ?c3 ?c4 HBB.out ?_)
        case c1 => exact new_cells wr [.string (mem p).1, .float .f64 (mem p).2] 31
        case c2 => simp [Value.oneCell']
        case c3 => have := HLE.out; have := HS.out.few; unfold maxLen; omega
        case c4 => have := HLE.out; have := HS.out.few; omega
        intro out' w3 hown hgr hrow
        have HA3 : Hid (Acc 31 2 ElS w.heap.size w3 out' (seg mem a (p + 1))) := Lib.hid (by rw [seg_succ mem HPp.out]; exact Acc.app (flat_el _) HC1.out HC3.out HOL.out HBe.out.size (x := mem p) (cs := [.string (mem p).1, .float .f64 (mem p).2]) rfl rfl hown hgr hrow)
        have HB3 : Hid (Below w.heap.size w w3) := Lib.hid ((HBe.out.alloc HBe.out.size _).grown hgr (by have := HBe.out.size; simp; omega) (fun b e => (HOB.out b e)))
        have d1 : w3.cell? ⟨bl p, 3, none⟩ = some (.pointer (nx bl n (p + 1))) := HNX.out w3 HB3.out
        obtain ⟨A', c', rfl⟩ := HA3.out.slice
        have hl3 : (seg mem a (p + 1)).length = p - a := by unfold seg; simp
        clear hown hgr hrow
        go_wp2_with fail
        exact ⟨⟨p + 1, by omega, by omega, rfl, Lib.hid (fun r r1 r2 => by by_cases hr : r = p; subst hr; exact HPQ.out; exact HR.out r r1 (by omega)), HA3, HB3⟩, by rw [HL0.out, hl3]; simp only [lenV]; omega⟩
      | false =>
        rw [h1] at HL
        cases within with
        | true =>
          have hPQ : Q < p := by
            rcases Nat.lt_or_ge Q p with k | k
            · exact k
            · have := HQP.out.2 k
              unfold hiB at this
              rw [h1] at this
              cases this
          have HEND : Hid (seg mem a (max a Q + 1) = seg mem a p) := Lib.hid (seg_end HR.out hPQ hap)
          clear h1 HQP hPQ
          go_wp2_with fail
          refine HL.out.mono ?_
          rintro e w' ⟨rfl, rfl⟩
          go_wp2_with fail
          go_ret
          exact ⟨⟨_, rfl, by rw [HEND.out]; exact HA.out.lon (flat_el _)⟩, HBe.out⟩
        | false =>
          cases h2 : fEq (mem p).2 hi with
          | true =>
            have HPQ : Hid (p ≤ Q) := Lib.hid (HQP.out.1 (by unfold hiB; rw [h1, h2]; rfl))
            have h2' : (FloatKind.f64.format.order (mem p).2 hi == some Ordering.eq) = true := h2
            clear h1 h2 HQP
            go_wp2_with fail
            refine HL.out.mono ?_
            rintro e w' ⟨rfl, rfl⟩
            go_wp2_with (at_builtin; refine wpList_append_row _ rfl _ _ 23 rfl w.heap.size 31 i0 (.agg #[.string ⟨#[]⟩, .float .f64 0]) 2 24 Tryd.underlying23 HI.out HZ0.out HZ1.out HZ2.out rfl (by decide) _ _ _ rfl HC2.out ⟨wr.heap.size, 0, none⟩ 1 1 [.string (mem p).1, .float .f64 (mem p).2] rfl rfl Nat.one_pos ?c1 ?c2 ?c3 ?c4 HBB.out ?_)
            case c1 => exact new_cells wr [.string (mem p).1, .float .f64 (mem p).2] 31
            case c2 => simp [Value.oneCell']
            case c3 => have := HLE.out; have := HS.out.few; unfold maxLen; omega
            case c4 => have := HLE.out; have := HS.out.few; omega
            intro out' w3 hown hgr hrow
            have HA3 : Hid (Acc 31 2 ElS w.heap.size w3 out' (seg mem a (p + 1))) := Lib.hid (by rw [seg_succ mem HPp.out]; exact Acc.app (flat_el _) HC1.out HC3.out HOL.out HBe.out.size (x := mem p) (cs := [.string (mem p).1, .float .f64 (mem p).2]) rfl rfl hown hgr hrow)
            have HB3 : Hid (Below w.heap.size w w3) := Lib.hid ((HBe.out.alloc HBe.out.size _).grown hgr (by have := HBe.out.size; simp; omega) (fun b e => (HOB.out b e)))
            have d1 : w3.cell? ⟨bl p, 3, none⟩ = some (.pointer (nx bl n (p + 1))) := HNX.out w3 HB3.out
            obtain ⟨A', c', rfl⟩ := HA3.out.slice
            have hl3 : (seg mem a (p + 1)).length = p - a := by unfold seg; simp
            clear hown hgr hrow
            go_wp2_with fail
            exact ⟨⟨p + 1, by omega, by omega, rfl, Lib.hid (fun r r1 r2 => by by_cases hr : r = p; subst hr; exact HPQ.out; exact HR.out r r1 (by omega)), HA3, HB3⟩, by rw [HL0.out, hl3]; simp only [lenV]; omega⟩
          | false =>
            have h2' : (FloatKind.f64.format.order (mem p).2 hi == some Ordering.eq) = false := h2
            have hPQ : Q < p := by
              rcases Nat.lt_or_ge Q p with k | k
              · exact k
              · have := HQP.out.2 k
                unfold hiB at this
                rw [h1, h2] at this
                cases this
            have HEND : Hid (seg mem a (max a Q + 1) = seg mem a p) := Lib.hid (seg_end HR.out hPQ hap)
            clear h1 h2 HQP hPQ
            go_wp2_with fail
            refine HL.out.mono ?_
            rintro e w' ⟨rfl, rfl⟩
            go_wp2_with fail
            go_ret
            exact ⟨⟨_, rfl, by rw [HEND.out]; exact HA.out.lon (flat_el _)⟩, HBe.out⟩
    · have hx : nx bl n p = none := by unfold nx; rw [if_neg hp]
      have HEND : Hid (seg mem a (max a Q + 1) = seg mem a p) := Lib.hid (seg_end HR.out (by have := HQ.out; omega) hap)
      rw [hx]
      clear hx
      go_wp2_with fail
      go_ret
      exact ⟨⟨_, rfl, by rw [HEND.out]; exact HA.out.lon (flat_el _)⟩, HBe.out⟩
end Go.Proofs.YtmlaackdcnpjmaaDoor.Skp
