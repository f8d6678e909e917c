/- The walk of the statement TableLetters: it returns true. -/
import Derived.Test.YtpanbijlfijgfaaLives18
import Derived.Test.YtpanbijlfijgfaaLet18
import Derived.Test.YtpanbijlfijgfaaRefLow18
import Derived.Test.YtpanbijlfijgfaaNames18
import Derived.OwnWalk
namespace Go.Proofs.Ytpanbijlfijgfaa.TableLetters
open Go.RowKit Go.Proofs.Ytpanbijlfijgfaa.Fnd Go.Proofs.Ytpanbijlfijgfaa.Rws Go.Proofs.Ytpanbijlfijgfaa.Low18 Go.Proofs.Ytpanbijlfijgfaa.Byt Go.Proofs.Ytpanbijlfijgfaa.Pin

/-- a slice of bools -/
def Bools (w : World) (p : Option Addr) (us : List Bool) : Prop :=
  ∀ i (h : i < us.length), ∃ g o, p = some ⟨g, o, none⟩ ∧ g < w.heap.size ∧ w.cell? ⟨g, o + i, none⟩ = some (.bool us[i])
/-- some letters raised -/
def UpL (s l : List UInt8) : Prop := l.length = s.length ∧ ∀ j (h : j < s.length) (h' : j < l.length), l[j] = s[j] ∨ (97 ≤ s[j].toNat ∧ s[j].toNat ≤ 122 ∧ l[j].toNat = s[j].toNat - 32)
theorem UpL.refl (s : List UInt8) : UpL s s := ⟨rfl, fun _ _ _ => .inl rfl⟩
theorem UpL.set {s l : List UInt8} (h : UpL s l) (k : Nat) (hk : k < l.length) (h1 : 97 ≤ l[k].toNat) (h2 : l[k].toNat ≤ 122) (v : UInt8) (hv : v.toNat = l[k].toNat - 32) : UpL s (l.set k v) := by
  refine ⟨by rw [List.length_set]; exact h.1, fun j hj hj' => ?_⟩
  rw [List.length_set] at hj'
  by_cases e : k = j
  · subst e
    rw [List.getElem_set_self]
    rcases h.2 k hj hj' with e | ⟨e1, e2, e3⟩
    · exact .inr ⟨by rw [← e]; exact h1, by rw [← e]; exact h2, by rw [hv, e]⟩
    · omega
  · rw [List.getElem_set_ne e]
    exact h.2 j hj hj'
theorem UpL.up {s : ByteArray} {l : List UInt8} (h : UpL s.data.toList l) : Up s ⟨l.toArray⟩ := by
  have hl : l.length = s.size := by rw [h.1, Array.length_toList]; rfl
  refine ⟨by show s.size = l.toArray.size; simp [hl], fun i hi => ?_⟩
  have hi' : i < (⟨l.toArray⟩ : ByteArray).size := by show i < l.toArray.size; simp; omega
  rw [Go.Proofs.Ytpanbijlfijgfaa.Low18.get_at hi, Go.Proofs.Ytpanbijlfijgfaa.Low18.get_at hi']
  have := h.2 i (by rw [Array.length_toList]; exact hi) (by omega)
  simp only [Array.getElem_toList] at this
  exact this
theorem sub32 (x : UInt8) (h : 97 ≤ x.toNat) (h2 : x.toNat ≤ 122) : (x.toNat : Int) - 32 = ((x - 32).toNat : Int) := by
  rw [UInt8.toNat_sub_of_le _ _ (by rw [UInt8.le_iff_toNat_le]; show 32 ≤ _; omega), show (32 : UInt8).toNat = 32 from rfl]
  omega

def tailOff (o cap : Nat) : Nat := if cap = 1 then o else o + 1
theorem slice_tail (g o L cap : Nat) (h1 : 1 ≤ L) (hc : L ≤ cap) (w : World) :
    (Instr.slice 33 (.slice (some ⟨g, o, none⟩) L cap) (some (.int .i64 1)) none none).run Try.prog w = .ok (.slice (some ⟨g, tailOff o cap, none⟩) (L - 1) (cap - 1)) w := by
  have h1' : (1 : Int) ≤ (L : Int) := by omega
  unfold tailOff
  by_cases h : cap = 1
  · subst h
    go_simp
  · go_simp
theorem pin_append {P : Program} {ops : Array Oper} {Q : Act → World → Prop} {o : Oper} {rest : List Oper} {a : Act} {W : World} {cs : List Nat} (hg : o.guard = none) (s x : Operand) (t : TypeId) (ho : o.op = .call { callee := .builtin .append, args := #[s, x], argTypes := #[t, t] })
    (sv xv : Value) (hs : a.eval s = sv) (hx : a.eval x = xv) (h : ∀ n, ∃ v' w', (Builtin.append_ #[t, t] o.type #[sv, xv]).run P (W.drewN n) = .ok v' w' ∧ pLex P Any ops Q cs rest (a.put o.dst v') w') : pLex P Any ops Q (2 :: cs) (o :: rest) a W := by
  refine pin_write (fun K hK => ?_)
  rw [if_pos (by simp [Region.wanted, hg])]
  intro n
  obtain ⟨v', w', hr, hk⟩ := h n
  have e : (execOp a.eval o).run P (W.drewN n) = .ok (.value v') w' := by
    unfold execOp
    simp only [ho, resolve, invoke, builtin, Sem.run_bind, Sem.run_pure, Result.andThen_ok, List.map_toArray, List.map_cons, List.map_nil, hs, hx, hr]
  rw [e]
  exact ⟨w', ⟨0, rfl⟩, hK _ _ hk⟩

theorem own_strs {w : World} {B n : Nat} {v : Value} {d : ByteArray} {tl : List ByteArray} (h : w.ownsRow B 9 1 v n (.string d :: tl.map .string)) : ∃ g cap, v = .slice (some ⟨g, 0, none⟩) n cap ∧ B ≤ g ∧ g < w.heap.size ∧ Strs w (some ⟨g, 0, none⟩) (d :: tl) := by
  rcases h.2 with ⟨_, h0⟩ | ⟨g, cap, cur, rfl, hb, hg, _, _, _, _⟩
  · have h1 := h.1
    rw [h0] at h1
    simp at h1
  · refine ⟨g, cap, rfl, hb, (Array.getElem?_eq_some_iff.1 hg).1, fun i hi => ⟨g, 0, rfl, (Array.getElem?_eq_some_iff.1 hg).1, ?_⟩⟩
    have h3 := h.cells (g := g) rfl i (.string (d :: tl)[i]) (by
      rw [show Value.string d :: tl.map Value.string = (d :: tl).map Value.string from rfl, List.getElem?_map, List.getElem?_eq_getElem hi]
      rfl)
    simp only [Addr.add_lit, Nat.zero_add] at h3 ⊢
    exact h3
theorem Strs.below {w w' : World} {p : Option Addr} {ss : List ByteArray} (h : Strs w p ss) (hb : Below w.heap.size w w') : Strs w' p ss := by
  intro i hi
  obtain ⟨g, o, hp, hg, hc⟩ := h i hi
  exact ⟨g, o, hp, Nat.lt_of_lt_of_le hg hb.size, (hb.cell (p := ⟨g, o + i, none⟩) hg).trans hc⟩
theorem spec_form (o : Option Nat) : ∃ (n : ByteArray) (i1 i2 i5 i6 i8 : Int) (b3 b4 b7 : Bool), specO o = .agg #[.string n, .int .i64 i1, .int .i64 i2, .bool b3, .bool b4, .int .i64 i5, .int .i64 i6, .bool b7, .int .i64 i8] := by
  cases o with
  | none => exact ⟨_, _, _, _, _, _, _, _, _, rfl⟩
  | some k => exact ⟨_, _, _, _, _, _, _, _, _, rfl⟩
theorem chk_form (c : Option ByteArray) : ∃ (k : Int) (t : ByteArray), chkV c = .agg #[.int .u8 k, .string t, .int .i64 0, .slice none 0 0] := by
  cases c with
  | none => exact ⟨_, _, rfl⟩
  | some t => exact ⟨_, _, rfl⟩

theorem check_L (p : Option Addr) (ss : List ByteArray) (cap L : Nat) (s0 : ByteArray) (oo : Option Nat) (hL : L = ss.length) (hl : L ≤ 1048576) (hb : ∀ s ∈ ss, s.size ≤ 1048576) (h0 : ∃ tl, ss = s0 :: tl) (hh : Hit ⟨(lowT s0).toArray⟩ oo) (w : World) (hS : Strs w p ss) :
    Calls Try.prog 10 #[.slice p L cap] w fun r w' => r = .returned (.tuple #[chkV (chk oo ss), .bool (chk oo ss).isSome]) ∧ Below w.heap.size w w' := by
  obtain ⟨tl, rfl⟩ := h0
  subst hL
  refine (check_any p (s0 :: tl) cap w (by simp) (by omega) (by have := hb s0 (by simp); show s0.size ≤ _; omega) (fun s hs => by have := hb s hs; omega) hS).mono fun e w' ⟨o, ho, he, hw⟩ => ?_
  obtain rfl := hit_one hh ho
  exact ⟨he, hw⟩
theorem chk_same (oo : Option Nat) (s0 d : ByteArray) (tl : List ByteArray) (h : s0.size = d.size) : chk oo (d :: tl) = chk oo (s0 :: tl) := by
  cases oo with
  | none => rfl
  | some k =>
    show (if badL k (d :: tl).length = true then some sWrong else if ((d :: tl).any (fun s => decide (65536 < s.size))) = true then some sSize else none) = (if badL k (s0 :: tl).length = true then some sWrong else if ((s0 :: tl).any (fun s => decide (65536 < s.size))) = true then some sSize else none)
    rw [List.length_cons, List.length_cons, List.any_cons, List.any_cons, h]

set_option maxHeartbeats 4000000 in
set_option maxRecDepth 100000 in
theorem walk (p : Option Addr) (ss : List ByteArray) (cap : Nat) (q : Option Addr) (us : List Bool) (cap2 : Nat) (w : World) (hl : ss.length ≤ 1048576) (hcap : ss.length ≤ cap) (hu : us.length ≤ 1048576) (hb : ∀ s ∈ ss, s.size ≤ 1048576) (hS : Strs w p ss) (hU : Bools w q us) :
    Calls Try.prog 4 #[.slice p ss.length cap, .slice q us.length cap2] w fun e w' => e = .returned (.bool true) ∧ Below w.heap.size w w' := by
  by_cases hne : ss.length = 0
  · obtain ⟨L, hL⟩ : ∃ L, L = ss.length := ⟨_, rfl⟩
    have hz : ((ss.length : Int) == 0) = true := by rw [beq_iff_eq]; omega
    rw [← hL] at hz ⊢
    clear hL hne hS hU hb
    go_enter Try.func4, Try.ntmps4
    go_wp2_with fail
    refine (lives_any _).mono ?_
    rintro e w1 ⟨rfl, b1⟩
    go_wp2_with fail
    go_ret
    exact ⟨rfl, b1⟩
  have hne' : 0 < ss.length := by omega
  have HS := Lib.hid hS
  have HU := Lib.hid hU
  have HBs := Lib.hid hb
  obtain ⟨g, o, rfl, hg, hc⟩ := hS 0 hne'
  obtain ⟨s0, h0⟩ : ∃ s, s = ss[0] := ⟨_, rfl⟩
  rw [← h0, Nat.add_zero] at hc
  have H0 := Lib.hid h0
  have hs0 : s0.size ≤ 1048576 := by rw [h0]; exact hb _ (List.getElem_mem hne')
  clear hS hU hb h0
  obtain ⟨L, hL⟩ : ∃ L, L = ss.length := ⟨_, rfl⟩
  rw [← hL] at hl hcap hne' ⊢
  have HL := Lib.hid hL
  clear hL hne
  obtain ⟨M, hM⟩ : ∃ M, M = us.length := ⟨_, rfl⟩
  rw [← hM] at hu ⊢
  have HM := Lib.hid hM
  clear hM
  have hn0 : ¬ (L : Int) = 0 := by omega
  have hpos : (0 : Int) < (L : Int) := by omega
  go_enter Try.func4, Try.ntmps4
  go_wp2_with fail
  rw [conv_bytes]
  obtain ⟨W, C, hconv, hcapC, hby, hbl⟩ := bytes_own w s0
  rw [hconv, hcapC]
  obtain ⟨l0, hl0⟩ : ∃ l, l = s0.data.toList := ⟨_, rfl⟩
  have hll : l0.length = s0.size := by rw [hl0, Array.length_toList]; rfl
  rw [← hl0] at hby
  have HE := Lib.hid hl0
  have HBY := Lib.hid hby
  have HB := Lib.hid hbl
  clear hconv hcapC hby hbl hl0
  go_wp2_with fail
  go_loopw [6] (fun i wr => ∃ (k : Nat) (l : List UInt8), k ≤ l0.length ∧ k ≤ M ∧ i = .int .i64 k ∧ Hid (UpL l0 l) ∧ Hid (Bytes wr w.heap.size l) ∧ Hid (Below w.heap.size w wr)) (fun i _ => l0.length - (intOf i).toNat)
  case atStart => exact ⟨0, l0, by omega, by omega, rfl, Lib.hid (UpL.refl _), HBY, HB⟩
  case round =>
    obtain ⟨k, l, hk, hkM, rfl, HUP, HY, HW⟩ := hrel
    clear HBY HB
    have hlen : l.length = s0.size := by rw [HUP.out.1, hll]
    by_cases hend : k < l0.length ∧ k < M
    · obtain ⟨hk1, hk2⟩ := hend
      have hks : (k : Int) < (s0.size : Int) := by omega
      have hkM' : (k : Int) < (M : Int) := by omega
      obtain ⟨gq, oq, rfl, hgq, hcq⟩ := HU.out k (by rw [← HM.out]; exact hk2)
      obtain ⟨u, hu'⟩ : ∃ u, u = us[k]'(by rw [← HM.out]; exact hk2) := ⟨_, rfl⟩
      rw [← hu', ← HW.out.cell (p := ⟨gq, oq + k, none⟩) hgq] at hcq
      clear hu'
      obtain ⟨x, hx⟩ : ∃ x, x = l[k]'(by omega) := ⟨_, rfl⟩
      obtain ⟨hcl, hfz⟩ := HY.out k (by omega)
      rw [← hx] at hcl
      have HX := Lib.hid hx
      have hxb : (x.toNat : Int) < 256 := by have := x.toNat_lt; omega
      clear hx
      by_cases hup : u = true ∧ 97 ≤ x.toNat ∧ x.toNat ≤ 122
      · obtain ⟨rfl, h97, h122⟩ := hup
        have h97' : (97 : Int) ≤ (x.toNat : Int) := by omega
        have h122' : (x.toNat : Int) ≤ 122 := by omega
        have hsub := Lib.hid (sub32 x h97 h122)
        have hv : (x - 32).toNat = x.toNat - 32 := by have := hsub.out; omega
        have HN := Lib.hid (HUP.out.set k (by omega) (by rw [← HX.out]; exact h97) (by rw [← HX.out]; exact h122) (x - 32) (by rw [hv, ← HX.out]))
        clear hv
        go_wp2_with fail
        rw [hsub.out]
        exact ⟨⟨k + 1, _, by omega, by omega, by go_num, HN, Lib.hid (HY.out.set (by omega) _), Lib.hid (HW.out.setCell (Nat.le_refl _) _)⟩, by simp [intOf]; omega⟩
      · have hway : u = false ∨ (u = true ∧ (x.toNat : Int) < 97) ∨ (u = true ∧ ¬ (x.toNat : Int) < 97 ∧ (122 : Int) < (x.toNat : Int)) := by
          cases u with
          | false => exact .inl rfl
          | true =>
            have h3 : ¬ (97 ≤ x.toNat ∧ x.toNat ≤ 122) := fun h => hup ⟨rfl, h⟩
            by_cases h4 : (x.toNat : Int) < 97
            · exact .inr (.inl ⟨rfl, h4⟩)
            · exact .inr (.inr ⟨rfl, h4, by omega⟩)
        clear hup
        rcases hway with rfl | ⟨rfl, h1⟩ | ⟨rfl, h1, h2⟩
        all_goals
          go_wp2_with fail
          exact ⟨⟨k + 1, l, by omega, by omega, by go_num, HUP, HY, HW⟩, by simp [intOf]; omega⟩
    · have hends : ¬ (k : Int) < (s0.size : Int) ∨ ((k : Int) < (s0.size : Int) ∧ ¬ (k : Int) < (M : Int)) := by omega
      clear hend
      rcases hends with h1 | ⟨h1, h2⟩
      all_goals
        go_wp2_with fail
        obtain ⟨d, hd⟩ : ∃ d : ByteArray, d = ⟨l.toArray⟩ := ⟨_, rfl⟩
        have hstr : ∀ n, (convert 35 9 (.slice (some ⟨w.heap.size, 0, none⟩) s0.size C)).run Try.prog (wr.drewN n) = .ok (.string d) (wr.drewN n) := by
          intro n
          have := (HY.out.drewN n).str C
          rwa [hlen, ← hd] at this
        have HUD : Hid (Up s0 d) := Lib.hid (by rw [hd]; have h9 := HUP.out; rw [HE.out] at h9; exact h9.up)
        obtain ⟨tl, htl⟩ : ∃ tl, tl = ss.tail := ⟨_, rfl⟩
        have htll : tl.length = L - 1 := by rw [htl, List.length_tail, HL.out]
        have HD := Lib.hid hd
        have HT := Lib.hid htl
        clear hd htl
        have hn := HW.out.size
        have happ : ∀ n, ∃ v' w', (Builtin.append_ #[33, 33] 33 #[.slice (some ⟨wr.heap.size, 0, none⟩) 1 1, .slice (some ⟨g, tailOff o cap, none⟩) (L - 1) (cap - 1)]).run Try.prog ((wr.alloc (.cells #[.string d] 9)).drewN n) = .ok v' w' ∧ w'.ownsRow w.heap.size 9 1 v' (1 + (L - 1)) ([.string d] ++ tl.map .string) ∧ ((wr.alloc (.cells #[.string d] 9)).drewN n).grownBy w' (some wr.heap.size) := by
          intro n
          obtain ⟨i0, hi, hz0, hz1, hz2⟩ := info_parts info_str
          have hnews : ∀ j u, (tl.map Value.string)[j]? = some u → ((wr.alloc (.cells #[.string d] 9)).drewN n).cell? ((⟨g, tailOff o cap, none⟩ : Addr).add j) = some u := by
            intro j u hj
            rw [List.getElem?_map] at hj
            obtain ⟨x, hx, rfl⟩ := Option.map_eq_some_iff.1 hj
            obtain ⟨hjl, hx⟩ := List.getElem?_eq_some_iff.1 hx
            have hjs : j + 1 < ss.length := by rw [← HL.out]; omega
            obtain ⟨g', o', he, hg', hcj⟩ := HS.out (j + 1) hjs
            injection he with he
            injection he with he1 he2
            subst he1 he2
            have hLs := HL.out
            have hcap1 : ¬ cap = 1 := by omega
            have hx2 : ss[j + 1] = x := by rw [← hx]; simp [HT.out]
            simp only [tailOff, if_neg hcap1, Addr.add_lit]
            show (wr.alloc _).cell? _ = _
            rw [World.cell?_alloc_past _ _ _ (by omega), HW.out.cell (p := ⟨g, o + 1 + j, none⟩) hg, show o + 1 + j = o + (j + 1) by omega, hcj, hx2]
          have h1c : ∀ u ∈ tl.map Value.string, u.oneCell' = true := by
            intro u hu
            obtain ⟨x, _, rfl⟩ := List.mem_map.1 hu
            rfl
          obtain ⟨v', w', h1, h2, h3, _⟩ := run_append_own (P := Try.prog) ((wr.alloc (.cells #[.string d] 9)).drewN n) w.heap.size 33 33 9 i0 (.string ⟨#[]⟩) 1 16 Try.underlying33 hi hz0 hz1 hz2 rfl (by decide)
            (.slice (some ⟨wr.heap.size, 0, none⟩) 1 1) 1 [.string d] ⟨rfl, .inr ⟨wr.heap.size, 1, #[.string d], rfl, hn, heap_alloc_last wr _, by omega, by decide, rfl, rfl⟩⟩
            ⟨g, tailOff o cap, none⟩ (L - 1) (cap - 1) (tl.map .string) (by simp [htll]) hnews h1c (by unfold maxLen; omega) (by omega) (by show _ ≤ (wr.alloc _).heap.size; simp; omega)
          exact ⟨v', w', h1, h2, h3⟩
        have HA := Lib.hid happ
        clear happ
        refine wp_region_pin [0, 1, 2, 0, 0, 2, 0] (by kernel_rfl) (by kernel_rfl) ?_
        (refine pin_pure (fun K hK => ?_); go_simp; refine hK _ _ ?_; clear hK K)
        (refine pin_read (fun K hK => ?_); go_simp; refine hK _ _ ?_; clear hK K)
        (refine pin_write (fun K hK => ?_); go_simp; refine fun nw => ⟨_, ⟨_, rfl⟩, hK _ _ ?_⟩; clear hK K)
        (refine pin_pure (fun K hK => ?_); go_simp; refine hK _ _ ?_; clear hK K)
        have hsl := fun w => slice_tail g o L cap hne' hcap w
        (refine pin_pure (fun K hK => ?_); go_simp; refine hK _ _ ?_; clear hK K)
        refine pin_append rfl _ _ 33 rfl (.slice (some ⟨wr.heap.size, 0, none⟩) 1 1) (.slice (some ⟨g, tailOff o cap, none⟩) (L - 1) (cap - 1)) rfl rfl fun n => ?_
        obtain ⟨v', w', hr, hown, hgrow⟩ := HA.out n
        refine ⟨v', w', hr, ?_⟩
        clear hr
        (refine pin_pure (fun K hK => ?_); go_simp; refine hK _ _ ?_; clear hK K)
        refine pin_nil ?_
        intro nq
        obtain ⟨g2, cap3, rfl, hg2B, hg2, hS2⟩ := own_strs hown
        rw [show 1 + (L - 1) = L by omega]
        obtain ⟨W5, hW5⟩ : ∃ W5, W5 = w'.drewN nq := ⟨_, rfl⟩
        have B5 : Hid (Below w.heap.size w W5) := Lib.hid (by
          rw [hW5]
          exact below_drewN ((below_drewN (HW.out.alloc hn (.cells #[.string d] 9)) n).grown hgrow (by show _ ≤ (wr.alloc _).heap.size; simp; omega) (fun b e => by injection e with e; omega)) nq)
        have hS5 : Hid (Strs W5 (some ⟨g2, 0, none⟩) (d :: tl)) := Lib.hid (by rw [hW5]; exact hS2)
        have hg5 : g2 < W5.heap.size := by rw [hW5]; exact hg2
        rw [← hW5]
        clear hW5 hown hgrow hS2 hg2 hsl hstr
        have hc5 := (B5.out.cell (p := ⟨g, o, none⟩) hg).trans hc
        have HF1 := Lib.hid (fun w => find_all s0 w (by omega))
        have hds : d.size ≤ 1048576 := by rw [← HUD.out.1]; exact hs0
        have HF2 := Lib.hid (fun w => find_all d w (by omega))
        clear hc
        go_wp2_with fail
        refine (HF1.out _).mono ?_
        rintro e w6 ⟨oo, hh, rfl, b6⟩
        obtain ⟨n0, i1, i2, i5, i6, i8, b3, b4, b7, hsp⟩ := spec_form oo
        have HSP := Lib.hid hsp
        have HH := Lib.hid hh
        rw [hsp]
        obtain ⟨bb, hbb⟩ : ∃ bb, bb = oo.isSome := ⟨_, rfl⟩
        rw [← hbb]
        have HBB := Lib.hid hbb
        clear hsp hh hbb hc5
        have B6 := Lib.hid (B5.out.trans (b6.mono B5.out.size))
        have hS6 := Lib.hid (Strs.below hS5.out b6)
        clear b6
        have hd6 : w6.cell? ⟨g2, 0, none⟩ = some (.string d) := by
          obtain ⟨_, _, e, _, h⟩ := hS6.out 0 (by simp)
          injection e with e
          injection e with e1 e2
          subst e1 e2
          exact h
        have hg6 : g2 < w6.heap.size := Lib.lt_of_cell hd6
        go_wp2_with fail
        refine (HF2.out _).mono ?_
        rintro e w7 ⟨o2, hh2, rfl, b7'⟩
        obtain rfl : oo = o2 := hit_one HH.out (by rw [← up_lowT HUD.out]; exact hh2)
        rw [HSP.out, ← HBB.out]
        clear hh2
        have hss : ss = s0 :: tl := by
          rw [H0.out, HT.out]
          cases ss with
          | nil => exact absurd HL.out (by simp; omega)
          | cons x r => rfl
        have hbd : ∀ s ∈ d :: tl, s.size ≤ 1048576 := by
          intro s hs
          rcases List.mem_cons.1 hs with h | h
          · rw [h]; exact hds
          · exact HBs.out s (by rw [hss]; exact List.mem_cons_of_mem _ h)
        have HK1 := Lib.hid (fun w hS => check_L (some ⟨g, o, none⟩) ss cap L s0 oo HL.out hl HBs.out ⟨tl, hss⟩ HH.out w hS)
        have HK2 := Lib.hid (fun w hS => check_L (some ⟨g2, 0, none⟩) (d :: tl) cap3 L d oo (by rw [List.length_cons, htll]; omega) hl hbd ⟨tl, rfl⟩ (by rw [up_lowT HUD.out]; exact HH.out) w hS)
        have hck : chk oo (d :: tl) = chk oo ss := by rw [hss]; exact chk_same _ _ _ _ HUD.out.1
        rw [hck] at HK2
        obtain ⟨cc, hcc⟩ : ∃ cc, cc = chk oo ss := ⟨_, rfl⟩
        rw [← hcc] at HK1 HK2
        obtain ⟨kk, tt, hform⟩ := chk_form cc
        rw [hform] at HK1 HK2
        obtain ⟨cb, hcb⟩ : ∃ cb, cb = cc.isSome := ⟨_, rfl⟩
        rw [← hcb] at HK1 HK2
        clear hss hbd hck hcc hform hcb
        have b7a := b7'.size
        have B7 := Lib.hid ((B6.out.alloc B6.out.size (.cells #[.string n0, .int .i64 i1, .int .i64 i2, .bool b3, .bool b4, .int .i64 i5, .int .i64 i6, .bool b7, .int .i64 i8] 23)).trans (b7'.mono (by have := B6.out.size; simp; omega)))
        have hS7 := Lib.hid (Strs.below (Strs.below hS6.out ((Below.refl _ w6).alloc (Nat.le_refl _) (.cells #[.string n0, .int .i64 i1, .int .i64 i2, .bool b3, .bool b4, .int .i64 i5, .int .i64 i6, .bool b7, .int .i64 i8] 23))) b7')
        have hA7 : Hid (w7.heap[w6.heap.size]? = some (.cells #[.string n0, .int .i64 i1, .int .i64 i2, .bool b3, .bool b4, .int .i64 i5, .int .i64 i6, .bool b7, .int .i64 i8] 23 (0, 0))) := Lib.hid (by rw [b7'.block _ (by simp)]; exact heap_alloc_last w6 _)
        clear b7' hd6 hg6
        simp at b7a
        go_wp2_with fail
        obtain ⟨W8, hW8⟩ : ∃ W, W = w7.alloc (.cells #[.string n0, .int .i64 i1, .int .i64 i2, .bool b3, .bool b4, .int .i64 i5, .int .i64 i6, .bool b7, .int .i64 i8] 23) := ⟨_, rfl⟩
        have B8 := Lib.hid (B7.out.alloc B7.out.size (.cells #[.string n0, .int .i64 i1, .int .i64 i2, .bool b3, .bool b4, .int .i64 i5, .int .i64 i6, .bool b7, .int .i64 i8] 23))
        have hS8 := Lib.hid (Strs.below hS7.out ((Below.refl _ w7).alloc (Nat.le_refl _) (.cells #[.string n0, .int .i64 i1, .int .i64 i2, .bool b3, .bool b4, .int .i64 i5, .int .i64 i6, .bool b7, .int .i64 i8] 23)))
        have hA8 : Hid (W8.heap[w6.heap.size]? = some (.cells #[.string n0, .int .i64 i1, .int .i64 i2, .bool b3, .bool b4, .int .i64 i5, .int .i64 i6, .bool b7, .int .i64 i8] 23 (0, 0))) := Lib.hid (by rw [hW8, Lib.alloc_old _ _ _ (by omega)]; exact hA7.out)
        have hC8 : Hid (W8.heap[w7.heap.size]? = some (.cells #[.string n0, .int .i64 i1, .int .i64 i2, .bool b3, .bool b4, .int .i64 i5, .int .i64 i6, .bool b7, .int .i64 i8] 23 (0, 0))) := Lib.hid (by rw [hW8]; exact heap_alloc_last w7 _)
        have hz8 : w7.heap.size < W8.heap.size := by rw [hW8]; simp
        rw [← hW8] at B8 hS8 ⊢
        clear hW8 B7 hS7 hA7
        obtain ⟨pa, hpa⟩ : ∃ pa, pa = w6.heap.size := ⟨_, rfl⟩
        obtain ⟨pc, hpc⟩ : ∃ pc, pc = w7.heap.size := ⟨_, rfl⟩
        rw [← hpa] at hA8 b7a ⊢
        rw [← hpc] at hC8 hz8 b7a ⊢
        clear hpa hpc
        refine (HK1.out W8 (Strs.below HS.out B8.out)).mono ?_
        rintro e w8 ⟨rfl, b8⟩
        have B9 := Lib.hid (B8.out.trans (b8.mono B8.out.size))
        have hS9 := Lib.hid (Strs.below hS8.out b8)
        have hA9 : Hid (w8.heap[pa]? = some (.cells #[.string n0, .int .i64 i1, .int .i64 i2, .bool b3, .bool b4, .int .i64 i5, .int .i64 i6, .bool b7, .int .i64 i8] 23 (0, 0))) := Lib.hid (by rw [b8.block _ (by omega)]; exact hA8.out)
        have hC9 : Hid (w8.heap[pc]? = some (.cells #[.string n0, .int .i64 i1, .int .i64 i2, .bool b3, .bool b4, .int .i64 i5, .int .i64 i6, .bool b7, .int .i64 i8] 23 (0, 0))) := Lib.hid (by rw [b8.block _ (by omega)]; exact hC8.out)
        have hz9 : pc < w8.heap.size := Nat.lt_of_lt_of_le hz8 b8.size
        clear b8 B8 hS8 hA8 hC8 hz8
        go_wp2_with fail
        obtain ⟨W9, hW9⟩ : ∃ W, W = w8.alloc (.cells #[.int .u8 kk, .string tt, .int .i64 0, .slice none 0 0] 39) := ⟨_, rfl⟩
        have B9' := Lib.hid (B9.out.alloc B9.out.size (.cells #[.int .u8 kk, .string tt, .int .i64 0, .slice none 0 0] 39))
        have hS9' := Lib.hid (Strs.below hS9.out ((Below.refl _ w8).alloc (Nat.le_refl _) (.cells #[.int .u8 kk, .string tt, .int .i64 0, .slice none 0 0] 39)))
        have hA9' : Hid (W9.heap[pa]? = some (.cells #[.string n0, .int .i64 i1, .int .i64 i2, .bool b3, .bool b4, .int .i64 i5, .int .i64 i6, .bool b7, .int .i64 i8] 23 (0, 0))) := Lib.hid (by rw [hW9, Lib.alloc_old _ _ _ (by omega)]; exact hA9.out)
        have hC9' : Hid (W9.heap[pc]? = some (.cells #[.string n0, .int .i64 i1, .int .i64 i2, .bool b3, .bool b4, .int .i64 i5, .int .i64 i6, .bool b7, .int .i64 i8] 23 (0, 0))) := Lib.hid (by rw [hW9, Lib.alloc_old _ _ _ (by omega)]; exact hC9.out)
        have hz9' : pc < W9.heap.size := by rw [hW9]; simp; omega
        rw [← hW9] at B9' hS9' ⊢
        clear hW9 B9 hS9 hA9 hC9
        refine (HK2.out W9 hS9'.out).mono ?_
        rintro e w10 ⟨rfl, b10⟩
        have B10 := Lib.hid (B9'.out.trans (b10.mono B9'.out.size))
        have hA : w10.heap[pa]? = some (.cells #[.string n0, .int .i64 i1, .int .i64 i2, .bool b3, .bool b4, .int .i64 i5, .int .i64 i6, .bool b7, .int .i64 i8] 23 (0, 0)) := by rw [b10.block _ (by omega)]; exact hA9'.out
        have hC : w10.heap[pc]? = some (.cells #[.string n0, .int .i64 i1, .int .i64 i2, .bool b3, .bool b4, .int .i64 i5, .int .i64 i6, .bool b7, .int .i64 i8] 23 (0, 0)) := by rw [b10.block _ (by omega)]; exact hC9'.out
        have ltC : pc < w10.heap.size := Nat.lt_of_lt_of_le hz9' b10.size
        have ltA : pa < w10.heap.size := by omega
        have ha0 : w10.cell? ⟨pa, 0, none⟩ = some (.string n0) := by rw [Lib.cell_of_heap hA]; rfl
        have ha1 : w10.cell? ⟨pa, 1, none⟩ = some (.int .i64 i1) := by rw [Lib.cell_of_heap hA]; rfl
        have ha2 : w10.cell? ⟨pa, 2, none⟩ = some (.int .i64 i2) := by rw [Lib.cell_of_heap hA]; rfl
        have ha3 : w10.cell? ⟨pa, 3, none⟩ = some (.bool b3) := by rw [Lib.cell_of_heap hA]; rfl
        have ha4 : w10.cell? ⟨pa, 4, none⟩ = some (.bool b4) := by rw [Lib.cell_of_heap hA]; rfl
        have ha5 : w10.cell? ⟨pa, 5, none⟩ = some (.int .i64 i5) := by rw [Lib.cell_of_heap hA]; rfl
        have ha6 : w10.cell? ⟨pa, 6, none⟩ = some (.int .i64 i6) := by rw [Lib.cell_of_heap hA]; rfl
        have ha7 : w10.cell? ⟨pa, 7, none⟩ = some (.bool b7) := by rw [Lib.cell_of_heap hA]; rfl
        have ha8 : w10.cell? ⟨pa, 8, none⟩ = some (.int .i64 i8) := by rw [Lib.cell_of_heap hA]; rfl
        have hc0 : w10.cell? ⟨pc, 0, none⟩ = some (.string n0) := by rw [Lib.cell_of_heap hC]; rfl
        have hc1 : w10.cell? ⟨pc, 1, none⟩ = some (.int .i64 i1) := by rw [Lib.cell_of_heap hC]; rfl
        have hc2 : w10.cell? ⟨pc, 2, none⟩ = some (.int .i64 i2) := by rw [Lib.cell_of_heap hC]; rfl
        have hc3 : w10.cell? ⟨pc, 3, none⟩ = some (.bool b3) := by rw [Lib.cell_of_heap hC]; rfl
        have hc4 : w10.cell? ⟨pc, 4, none⟩ = some (.bool b4) := by rw [Lib.cell_of_heap hC]; rfl
        have hc5 : w10.cell? ⟨pc, 5, none⟩ = some (.int .i64 i5) := by rw [Lib.cell_of_heap hC]; rfl
        have hc6 : w10.cell? ⟨pc, 6, none⟩ = some (.int .i64 i6) := by rw [Lib.cell_of_heap hC]; rfl
        have hc7 : w10.cell? ⟨pc, 7, none⟩ = some (.bool b7) := by rw [Lib.cell_of_heap hC]; rfl
        have hc8 : w10.cell? ⟨pc, 8, none⟩ = some (.int .i64 i8) := by rw [Lib.cell_of_heap hC]; rfl
        clear b10 hS9' hA9' hC9' hz9' hA hC hz9 b7a
        go_wp2_with fail
        refine (lives_any _).mono ?_
        rintro e w11 ⟨rfl, b11⟩
        have B11 := Lib.hid ((B10.out.alloc B10.out.size (.cells #[.int .u8 kk, .string tt, .int .i64 0, .slice none 0 0] 39)).trans (b11.mono (by have := B10.out.size; simp; omega)))
        clear b11
        go_wp2_with fail
        go_ret
        exact ⟨rfl, B11.out⟩
end Go.Proofs.Ytpanbijlfijgfaa.TableLetters
